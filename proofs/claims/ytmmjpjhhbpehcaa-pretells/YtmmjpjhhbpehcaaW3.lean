/- PreTells answers true for every input that can be read, and leaves the input as it was. Part 3. -/
import Derived.Test.YtmmjpjhhbpehcaaW2
set_option linter.unusedVariables false
set_option linter.unusedSimpArgs false
set_option linter.unusedVariables false
namespace Go.Proofs
open Go Go.Sx Go.RowKit
/-- The first place of a rising row at which there is x or more. -/
def searchI (xs : List Int) (x : Int) : Nat := match (List.range xs.length).find? (fun i => decide (x ≤ xs.getD i 0)) with
  | some i => i
  | none => xs.length
theorem search_at {xs : List Int} {x : Int} {r : Nat} (hr : r ≤ xs.length) (h1 : ∀ k, k < r → xs.getD k 0 < x) (h2 : r < xs.length → x ≤ xs.getD r 0) : searchI xs x = r := by
  unfold searchI
  rcases Nat.lt_or_ge r xs.length with h | h
  · have : (List.range xs.length).find? (fun i => decide (x ≤ xs.getD i 0)) = some r := by
      rw [List.find?_range_eq_some]
      refine ⟨by simpa using h2 h, by simpa using h, fun j hj => ?_⟩
      have := h1 j hj
      simp only [Bool.not_eq_true', decide_eq_false_iff_not]; omega
    rw [this]
  · have : (List.range xs.length).find? (fun i => decide (x ≤ xs.getD i 0)) = none := by
      rw [List.find?_range_eq_none]
      intro i hi
      have := h1 i (by omega)
      simp only [Bool.not_eq_true', decide_eq_false_iff_not]; omega
    rw [this]; show xs.length = r; omega
/-- A row whose vertices' pieces lie one behind the other. -/
structure CsrT (c : Csr) : Prop extends CsrOK c where
  f0 : c.First.getD 0 0 = 0
  fN : c.First.getD c.N.toNat 0 = c.Head.length
  small : c.Head.length ≤ 2048
  capv : ∀ a, a < c.Head.length → mostOf c a ≤ 1125899906842624
theorem CsrT.up {c : Csr} (h : CsrT c) : ∀ {i j : Nat}, i ≤ j → j ≤ c.N.toNat → c.First.getD i 0 ≤ c.First.getD j 0 := by
  intro i j hij
  induction j with
  | zero => intro _; have : i = 0 := by omega
            subst this; omega
  | succ j ih =>
    intro hj
    rcases Nat.eq_or_lt_of_le hij with he | hl
    · subst he; omega
    · have h1 := ih (by omega) (by omega)
      have h2 := h.mono j (by omega)
      omega
theorem CsrT.tail_at {c : Csr} (h : CsrT c) {a : Int} (h0 : 0 ≤ a) (h1 : a < c.Head.length) : ∃ v : Nat, v < c.N.toNat ∧ isTail c a v ∧ tailOf c a = v ∧ (searchI c.First (a + 1) : Int) - 1 = v := by
  have hn := h.n
  have key : ∀ m : Nat, m ≤ c.N.toNat → a < c.First.getD m 0 → ∃ v : Nat, v < m ∧ isTail c a v ∧ ∀ u, u ≤ v → c.First.getD u 0 ≤ a := by
    intro m
    induction m with
    | zero => intro _ hl; have := h.f0; omega
    | succ m ih =>
      intro hm hl
      rcases Int.lt_or_le a (c.First.getD m 0) with hc | hc
      · obtain ⟨v, q1, q2⟩ := ih (by omega) hc
        exact ⟨v, by omega, q2⟩
      · exact ⟨m, by omega, ⟨hc, hl⟩, fun u hu => by have := h.up hu (by omega); omega⟩
  obtain ⟨v, q1, q2, q3⟩ := key c.N.toNat (by omega) (by rw [h.fN]; exact h1)
  have q4 := q2
  obtain ⟨q4, q5⟩ := q4
  refine ⟨v, q1, q2, tail_found q1 q2 fun u hu hc => ?_, ?_⟩
  · have h3 := h.up (i := u + 1) (j := v) (by omega) (by omega)
    obtain ⟨c1, c2⟩ := hc
    omega
  · rw [search_at (r := v + 1)]
    · omega
    · rw [h.first]; omega
    · intro k hk
      have := q3 k (by omega)
      omega
    · intro _; omega
end Go.Proofs

set_option linter.unusedVariables false
namespace Go.Proofs
open Go Go.Sx Go.RowKit
-- f79 "sort.SearchInts$1"
set_option maxHeartbeats 8000000 in
set_option synthInstance.maxHeartbeats 400000 in
set_option synthInstance.maxSize 2000 in
theorem t_si1 (xs : List Int) (x i : Int) (hi : 0 ≤ i ∧ i < xs.length) : Tri Try.prog 81 [.val (.int .i64 i), .ptr 1 0 0, .ptr 2 0 0] [SO.ints false .i64 xs, .box [.slc 0 0 xs.length none], .box [.val (.int .i64 x)]] (fun s H => s = .val (.bool (decide (xs.getD i.toNat 0 ≥ x))) ∧ H = [SO.ints false .i64 xs, .box [.slc 0 0 xs.length none], .box [.val (.int .i64 x)]]) := by
  refine tri_of_w (fn := Try.f81) Try.func81 rfl (by simp [Try.f81]) ?_
  intro ρ w hρ
  refine w_seq ?_
  -- region 0
  refine w_region ?_
  refine rw_t 4 rfl rfl rfl (do_assign rfl ?_)
  refine rw_nil ?_
  refine w_seq ?_
  -- region 1
  refine w_env [(0, .val (.int .i64 i)), (1, .ptr 1 0 0), (2, .ptr 2 0 0)] ⟨⟨_, rfl, rfl⟩, ⟨_, rfl, rfl⟩, ⟨_, rfl, rfl⟩, trivial⟩ ?_
  refine w_draw mixed [0, 0, 3, 7, 0] [31, 63] (by kernel_rfl) (by kernel_rfl) rfl rfl rfl (hle hρ rfl) ?_
  refine ra_q (j := 0) rfl rfl rfl rfl (do_load_box rfl rfl rfl ⟨rfl, rfl⟩) (by rfl) ?_
  refine ra_q (j := 1) rfl rfl rfl rfl (do_move rfl ⟨rfl, rfl⟩) (by rfl) ?_
  refine ra_q (j := 2) rfl rfl rfl rfl (do_ix0 rfl rfl rfl (by first | omega | (simp only [ls] <;> omega)) ⟨rfl, rfl⟩) (by rfl) ?_
  refine ra_q (j := 3) rfl rfl rfl rfl (do_load_arr rfl rfl (by first | omega | (simp only [ls] <;> omega)) rfl ⟨rfl, rfl⟩) (by rfl) ?_
  refine ra_q (j := 4) rfl rfl rfl rfl (do_load_box rfl rfl rfl ⟨rfl, rfl⟩) (by rfl) ?_
  refine n_done ?_
  refine rw_t 10 rfl rfl rfl (do_bin rfl rfl rfl ?_)
  refine rw_t 4 rfl rfl rfl (do_assign rfl ?_)
  refine rw_nil ?_
  refine w_ret ?_
  -- RESULT .val (.bool (decide ((xs.getD i.toNat 0) ≥ x))), WANTED .val (.bool (decide (xs.getD i.toNat 0 ≥ x)))
  exact ret_eq (.inl rfl) (.cons (res_tmp rfl) .nil) [0, 1, 2] (rfl) ⟨.inr ⟨_, rfl, .inl rfl⟩, .inr ⟨_, rfl, .inl rfl⟩, .inr ⟨_, rfl, .inl rfl⟩, trivial⟩ rfl (pre_ok rfl)
-- f78 "sort.Search"
set_option maxHeartbeats 8000000 in
set_option synthInstance.maxHeartbeats 400000 in
set_option synthInstance.maxSize 2000 in
theorem t_Search (xs : List Int) (x : Int) (hl : xs.length < 1073741824) (hm : ∀ i j : Nat, i ≤ j → j < xs.length → xs.getD i 0 ≤ xs.getD j 0) : Tri Try.prog 80 [.val (.int .i64 ((xs.length : Nat) : Int)), .func 81 [] [.ptr 1 0 0, .ptr 2 0 0]] [SO.ints false .i64 xs, .box [.slc 0 0 xs.length none], .box [.val (.int .i64 x)]] (fun s H => s = .val (.int .i64 ((searchI xs x : Nat) : Int)) ∧ H = [SO.ints false .i64 xs, .box [.slc 0 0 xs.length none], .box [.val (.int .i64 x)]]) := by
  refine tri_of_w (fn := Try.f80) Try.func80 rfl (by simp [Try.f80]) ?_
  intro ρ w hρ
  refine w_seq ?_
  -- region 0
  refine w_region ?_
  refine rw_t 4 rfl rfl rfl (do_assign rfl ?_)
  refine rw_nil ?_
  refine w_seq ?_
  -- region 1
  refine w_region ?_
  refine rw_t 8 rfl rfl rfl (do_move rfl ?_)
  refine rw_t 5 rfl rfl rfl (do_assign rfl ?_)
  refine rw_t 6 rfl rfl rfl (do_assign rfl ?_)
  refine rw_nil ?_
  refine w_seq ?_
  refine w_block ?_
  refine w_loopS (ι := Nat × Nat) (fun q => [(1, .func 81 [] [.ptr 1 0 0, .ptr 2 0 0]), (4, .val (.int .i64 0)), (5, .val (.int .i64 ((q.1 : Nat) : Int))), (6, .val (.int .i64 ((q.2 : Nat) : Int)))]) (fun q => [SO.ints false .i64 xs, .box [.slc 0 0 xs.length none], .box [.val (.int .i64 x)]]) (fun q => q.2 - q.1) (fun q => q.1 ≤ q.2 ∧ q.2 ≤ xs.length ∧ (∀ k, k < q.1 → xs.getD k 0 < x) ∧ (∀ k, q.2 ≤ k → k < xs.length → x ≤ xs.getD k 0)) ((0, xs.length)) [0, 1, 2] (⟨by simp, by simp, fun k hk => by simp at hk, fun k h1 h2 => by dsimp only at h1; omega⟩) ⟨.inr ⟨_, rfl, .inl rfl⟩, .inr ⟨_, rfl, .inl rfl⟩, .inr ⟨_, rfl, .inl rfl⟩, trivial⟩ rfl (pre_ok rfl) hρ ⟨⟨_, rfl, rfl⟩, ⟨_, rfl, rfl⟩, ⟨_, rfl, rfl⟩, ⟨_, rfl, rfl⟩, trivial⟩ ?_
  rintro ⟨i, j⟩ ⟨g1, g2, g3, g4⟩
  dsimp only at g1 g2 g3 g4 ⊢
  refine w_seq ?_
  refine w_seq ?_
  -- region 2
  refine w_region ?_
  refine rw_t 9 rfl rfl rfl (do_move rfl ?_)
  refine rw_t 10 rfl rfl rfl (do_move rfl ?_)
  refine rw_t 11 rfl rfl rfl (do_bin rfl rfl rfl ?_)
  refine rw_nil ?_
  refine w_cond rfl (fun hc1 => ?_) (fun hc1 => ?_)
  all_goals try simp only [bs] at hc1
  rotate_left
  · refine w_exit ?_ -- exit 0
    refine w_seq ?_
    -- region 7
    refine w_region ?_
    refine rw_t 25 rfl rfl rfl (do_move rfl ?_)
    refine rw_t 4 rfl rfl rfl (do_assign rfl ?_)
    refine rw_nil ?_
    refine w_ret ?_
    exact ret_eq (.inl rfl) (.cons (res_tmp rfl) .nil) [0, 1, 2] (Eq.symm (val_congr (by obtain rfl : i = j := (by omega); rw [search_at g2 g3 (g4 i (Nat.le_refl _))]))) ⟨.inr ⟨_, rfl, .inl rfl⟩, .inr ⟨_, rfl, .inl rfl⟩, .inr ⟨_, rfl, .inl rfl⟩, trivial⟩ rfl (pre_ok rfl)
  refine w_skip ?_
  refine w_block ?_
  refine w_seq ?_
  -- region 3
  refine w_region ?_
  refine rw_t 12 rfl rfl rfl (do_move rfl ?_)
  refine rw_t 13 rfl rfl rfl (do_move rfl ?_)
  refine rw_t 14 rfl rfl rfl (do_add rfl rfl (by omega) ?_)
  refine rw_t 15 rfl rfl rfl (do_conv rfl ?_)
  refine rw_as (.val (.int .u64 ((i : Int) + (j : Int)))) (val_congr (IntWalk.u64_in _ ⟨by omega, by omega⟩)) ?_
  refine rw_t 16 rfl rfl rfl (do_shr1 rfl rfl (by omega) ?_)
  refine rw_t 17 rfl rfl rfl (do_conv rfl ?_)
  refine rw_as (.val (.int .i64 (((i : Int) + (j : Int)) / 2))) (val_congr (in64 (by omega) (by omega))) ?_
  refine rw_t 7 rfl rfl rfl (do_assign rfl ?_)
  refine rw_nil ?_
  refine w_seq ?_
  -- region 4
  refine w_region ?_
  refine rw_t 18 rfl rfl rfl (do_move rfl ?_)
  refine rw_t 19 rfl rfl rfl (do_move rfl ?_)
  refine rw_t 20 rfl rfl rfl (n_callW (X' := .val (.bool (decide (xs.getD (((i : Int) + (j : Int)) / 2).toNat 0 ≥ x)))) (H' := [SO.ints false .i64 xs, .box [.slc 0 0 xs.length none], .box [.val (.int .i64 x)]]) rfl rfl (t_si1 (xs := xs) (x := x) (i := (((i : Int) + (j : Int)) / 2)) (by omega)) [0, 1, 2] ⟨.inr ⟨_, rfl, srv⟩, .inr ⟨_, rfl, .inl rfl⟩, .inr ⟨_, rfl, .inl rfl⟩, trivial⟩ rfl rfl ⟨fun h => (by cases h), ⟨fun h => .inl rfl, ⟨fun h => .inl rfl, (fun y hy => by simp at hy)⟩⟩⟩ rfl rfl ?_)
  refine rw_t 21 rfl rfl rfl (do_not rfl ?_)
  refine rw_nil ?_
  refine w_cond rfl (fun hc2 => ?_) (fun hc2 => ?_)
  all_goals try simp only [bs] at hc2
  · -- region 5
    refine w_region ?_
    refine rw_t 22 rfl rfl rfl (do_move rfl ?_)
    refine rw_t 23 rfl rfl rfl (do_add rfl rfl (by omega) ?_)
    refine rw_t 5 rfl rfl rfl (do_assign rfl ?_)
    refine rw_nil ?_
    refine ⟨((((i : Int) + (j : Int)) / 2).toNat + 1, j), [0, 1, 2], by dsimp only; omega, ⟨by dsimp only; omega, g2, fun k hk => by have := hm k (((i : Int) + (j : Int)) / 2).toNat (by dsimp only at hk; omega) (by omega); omega, g4⟩, ⟨.inr ⟨_, rfl, .inl rfl⟩, .inr ⟨_, rfl, .inl rfl⟩, .inr ⟨_, rfl, .inl rfl⟩, trivial⟩, rfl, pre_ok rfl, ⟨⟨_, rfl, rfl⟩, ⟨_, rfl, rfl⟩, ⟨_, rfl, Eq.symm (val_congr (by dsimp only; omega))⟩, ⟨_, rfl, rfl⟩, trivial⟩⟩
  · -- region 6
    refine w_region ?_
    refine rw_t 24 rfl rfl rfl (do_move rfl ?_)
    refine rw_t 6 rfl rfl rfl (do_assign rfl ?_)
    refine rw_nil ?_
    refine ⟨(i, (((i : Int) + (j : Int)) / 2).toNat), [0, 1, 2], by dsimp only; omega, ⟨by dsimp only; omega, by dsimp only; omega, g3, fun k h1 h2 => by have := hm (((i : Int) + (j : Int)) / 2).toNat k (by dsimp only at h1; omega) h2; omega⟩, ⟨.inr ⟨_, rfl, .inl rfl⟩, .inr ⟨_, rfl, .inl rfl⟩, .inr ⟨_, rfl, .inl rfl⟩, trivial⟩, rfl, pre_ok rfl, ⟨⟨_, rfl, rfl⟩, ⟨_, rfl, rfl⟩, ⟨_, rfl, rfl⟩, ⟨_, rfl, Eq.symm (val_congr (by dsimp only; omega))⟩, trivial⟩⟩
-- f70 "sort.SearchInts"
set_option maxHeartbeats 8000000 in
set_option synthInstance.maxHeartbeats 400000 in
set_option synthInstance.maxSize 2000 in
theorem t_SearchInts (xs : List Int) (x : Int) (hl : xs.length < 1073741824) (hm : ∀ i j : Nat, i ≤ j → j < xs.length → xs.getD i 0 ≤ xs.getD j 0) : Tri Try.prog 62 [.slc 0 0 xs.length none, .val (.int .i64 x)] [SO.ints false .i64 xs] (fun s H => s = .val (.int .i64 ((searchI xs x : Nat) : Int)) ∧ H = [SO.ints false .i64 xs]) := by
  refine tri_of_w (fn := Try.f62) Try.func62 rfl (by simp [Try.f62]) ?_
  intro ρ w hρ
  refine w_seq ?_
  -- region 0
  refine w_region ?_
  refine rw_t 2 rfl rfl rfl (n_box (n := 1) rfl rfl rfl ?_)
  refine rw_t 3 rfl rfl rfl (n_box (n := 2) rfl rfl rfl ?_)
  refine rw_t 4 rfl rfl rfl (do_assign rfl ?_)
  refine rw_nil ?_
  refine w_seq ?_
  -- region 1
  refine w_region ?_
  refine rw_t 5 rfl rfl rfl (do_load_box rfl rfl rfl ?_)
  refine rw_t 6 rfl rfl rfl (do_len rfl ?_)
  refine rw_t 7 rfl rfl rfl (do_makefunc rfl rfl ?_)
  refine rw_t 8 rfl rfl rfl (n_callW (X' := .val (.int .i64 ((searchI xs x : Nat) : Int))) (H' := [SO.ints false .i64 xs, .box [.slc 0 0 xs.length none], .box [.val (.int .i64 x)]]) rfl rfl (t_Search (xs := xs) (x := x) (hl) (hm)) [0, 1, 2] ⟨.inr ⟨_, rfl, srv⟩, .inr ⟨_, rfl, .inl rfl⟩, .inr ⟨_, rfl, .inl rfl⟩, trivial⟩ rfl rfl ⟨fun h => (by cases h), ⟨fun h => .inl rfl, ⟨fun h => .inl rfl, (fun y hy => by simp at hy)⟩⟩⟩ rfl rfl ?_)
  refine rw_t 4 rfl rfl rfl (do_assign rfl ?_)
  refine rw_nil ?_
  refine w_ret ?_
  exact ret_eq (.inl rfl) (.cons (res_tmp rfl) .nil) [0] (rfl) ⟨.inr ⟨_, rfl, .inl rfl⟩, trivial⟩ rfl (pre_ok rfl)
end Go.Proofs

set_option linter.unusedVariables false
namespace Go.Proofs
open Go Go.Sx Go.RowKit
abbrev encEvent (e : Event) : List Value := [.int .i64 e.who, .int .u8 e.what, .int .i64 e.u, .int .i64 e.arc, .int .i64 e.d, .int .i64 e.h, .int .i64 e.low]
abbrev Event.none : Event := ⟨0, 0, 0, 0, 0, 0, 0⟩
abbrev SO.events (own : Bool) (xs : List Event) : SO := .arr Event own 7 encEvent Event.none xs
def gE (p : Pre) (v : Int) : Int := p.Ex.getD v.toNat 0
/-- As many numbers as there should be. -/
structure PreLen (c : Csr) (p : Pre) : Prop where
  res : p.Res.length = c.Head.length
  ex : p.Ex.length = c.N.toNat
  h : p.H.length = c.N.toNat
structure EvIn (e : Event) : Prop where
  u : In64 e.u
  arc : In64 e.arc
  d : In64 e.d
  h : In64 e.h
  low : In64 e.low
def pushE (c : Csr) (p : Pre) (e : Event) : Int :=
  if e.arc < c.First.getD e.u.toNat 0 ∨ e.arc ≥ c.First.getD (e.u + 1).toNat 0 then 2
  else if e.d < 1 ∨ e.d > p.Ex.getD e.u.toNat 0 ∨ e.d > p.Res.getD e.arc.toNat 0 ∨ e.h ≠ p.H.getD e.u.toNat 0 ∨ e.h ≤ e.low then 30 else 0
def liftE (c : Csr) (p : Pre) (e : Event) : Int := if e.h ≤ p.H.getD e.u.toNat 0 ∨ e.h > 2 * c.N then 30 else 0
/-- P9.1: may a move be done? -/
def legalE (c : Csr) (p : Pre) (e : Event) : Int :=
  if (e.what ≠ 1 ∧ e.what ≠ 2) ∨ e.u < 0 ∨ e.u ≥ c.N ∨ e.u = c.S ∨ e.u = c.T then 2
  else if e.what = 2 then liftE c p e else pushE c p e
def subAt (l : List Int) (i : Int) (x : Int) : List Int := l.set i.toNat (l.getD i.toNat 0 - x)
/-- P9.2: what comes of a move that may be done. -/
def doesP (c : Csr) (p : Pre) (e : Event) : Pre :=
  if e.what = 2 then ⟨p.Res, p.Ex, p.H.set e.u.toNat e.h⟩
  else ⟨addAt (subAt p.Res e.arc e.d) (c.Rev.getD e.arc.toNat 0) e.d, addAt (subAt p.Ex e.u e.d) (c.Head.getD e.arc.toNat 0) e.d, p.H⟩
end Go.Proofs

set_option linter.unusedVariables false
namespace Go.Proofs
open Go Go.Sx Go.RowKit
theorem dec_of {b : Bool} {P Q : Prop} [Decidable P] (h : b = true ↔ Q) (k : P ↔ Q) : decide P = b := by
  by_cases hp : P
  · rw [decide_eq_true hp]; exact (h.2 (k.1 hp)).symm
  · rw [decide_eq_false hp]
    cases b with
    | false => rfl
    | true => exact (hp (k.2 (h.1 rfl))).elim
/-- A row each of whose residual arcs has its partner. -/
structure CsrG (c : Csr) : Prop extends CsrT c where
  rne : ∀ a, a < c.Head.length → (c.Rev.getD a 0).toNat ≠ a
  rrv : ∀ a, a < c.Head.length → c.Rev.getD (c.Rev.getD a 0).toNat 0 = a
  rbk : ∀ a, a < c.Head.length → c.Back.getD (c.Rev.getD a 0).toNat false = !(c.Back.getD a false)
  rtl : ∀ a : Nat, a < c.Head.length → tailOf c a = c.Head.getD (c.Rev.getD a 0).toNat 0
theorem most_rev {c : Csr} (h : CsrG c) {a : Nat} (ha : a < c.Head.length) : mostOf c (c.Rev.getD a 0).toNat = mostOf c a := by
  unfold mostOf
  rw [h.rrv a ha, Int.toNat_natCast]; omega
/-- The excess that what is left of the first arcs says. -/
def exK (c : Csr) (res : List Int) : Nat → Int → Int
  | 0, _ => 0
  | k + 1, v => exK c res k v + (if c.Back.getD k false = true then (if tailOf c k = v then res.getD k 0 else 0) - (if c.Head.getD k 0 = v then res.getD k 0 else 0) else 0)
def exOf (c : Csr) (res : List Int) (v : Int) : Int := exK c res c.Head.length v
def pairsP (c : Csr) (res : List Int) : Prop := ∀ a : Nat, a < c.Head.length → 0 ≤ res.getD a 0 ∧ res.getD a 0 ≤ mostOf c a ∧ res.getD (c.Rev.getD a 0).toNat 0 = mostOf c a - res.getD a 0
instance (c : Csr) (res : List Int) : Decidable (pairsP c res) := by unfold pairsP; infer_instance
def excessP (c : Csr) (p : Pre) : Prop := ∀ v : Nat, v < c.N.toNat → p.Ex.getD v 0 = exOf c p.Res v ∧ ((v : Int) ≠ c.S → 0 ≤ p.Ex.getD v 0)
instance (c : Csr) (p : Pre) : Decidable (excessP c p) := by unfold excessP; infer_instance
def highP (c : Csr) (p : Pre) : Prop := ∀ v : Nat, v < c.N.toNat → 0 ≤ p.H.getD v 0 ∧ p.H.getD v 0 ≤ 2 * c.N
instance (c : Csr) (p : Pre) : Decidable (highP c p) := by unfold highP; infer_instance
def heightsP (c : Csr) (p : Pre) : Prop := highP c p ∧ p.H.getD c.S.toNat 0 = c.N ∧ p.H.getD c.T.toNat 0 = 0
instance (c : Csr) (p : Pre) : Decidable (heightsP c p) := by unfold heightsP; infer_instance
def lenP (c : Csr) (p : Pre) : Prop := p.Res.length = c.Head.length ∧ p.Ex.length = c.N.toNat ∧ p.H.length = c.N.toNat
instance (c : Csr) (p : Pre) : Decidable (lenP c p) := by unfold lenP; infer_instance
/-- P9.1: a sound state. -/
def rightP (c : Csr) (p : Pre) : Prop := lenP c p ∧ heightsP c p ∧ pairsP c p.Res ∧ excessP c p
instance (c : Csr) (p : Pre) : Decidable (rightP c p) := by unfold rightP; infer_instance

theorem exK_bound {c : Csr} {res : List Int} {M : Int} (hM : 0 ≤ M) (hr : ∀ a, a < c.Head.length → 0 ≤ res.getD a 0 ∧ res.getD a 0 ≤ M) : ∀ k, k ≤ c.Head.length → ∀ v, -(k * M) ≤ exK c res k v ∧ exK c res k v ≤ k * M
  | 0, _, v => by simp [exK]
  | k + 1, hk, v => by
    have h1 := exK_bound hM hr k (by omega) v
    have h2 := hr k (by omega)
    simp only [exK]
    have e : ((k + 1 : Nat) : Int) * M = k * M + M := by rw [Int.natCast_add, Int.add_mul]; simp
    rw [e]
    split
    · split <;> split <;> omega
    · omega
theorem exK_in {c : Csr} (h : CsrT c) {res : List Int} (hr : ∀ a, a < c.Head.length → 0 ≤ res.getD a 0 ∧ res.getD a 0 ≤ mostOf c a) {k : Nat} (hk : k ≤ c.Head.length) (v : Int) : -2305843009213693952 ≤ exK c res k v ∧ exK c res k v ≤ 2305843009213693952 := by
  have h1 := exK_bound (M := 1125899906842624) (by omega) (fun a ha => ⟨(hr a ha).1, Int.le_trans (hr a ha).2 (h.capv a ha)⟩) k hk v
  have h2 := h.small
  have h3 : (k : Int) * 1125899906842624 ≤ 2048 * 1125899906842624 := Int.mul_le_mul_of_nonneg_right (by omega) (by omega)
  omega
theorem exK_set {c : Csr} {res : List Int} {i : Nat} (hi : i < res.length) (x : Int) (v : Int) : ∀ k, exK c (res.set i x) k v = exK c res k v + (if i < k ∧ c.Back.getD i false = true then (if tailOf c i = v then x - res.getD i 0 else 0) - (if c.Head.getD i 0 = v then x - res.getD i 0 else 0) else 0)
  | 0 => by rw [if_neg (by omega)]; simp only [exK]; rfl
  | k + 1 => by
    simp only [exK]
    rw [exK_set hi x v k, getD_set _ _ _ _ hi]
    by_cases hik : i = k
    · subst hik
      cases hb : c.Back.getD i false <;> simp only [Nat.lt_irrefl, Nat.lt_succ_self, true_and, false_and, if_true, if_false, and_true, and_false, Bool.false_eq_true] <;> first | omega | (split <;> split <;> omega)
    · rw [if_neg hik]
      by_cases hb : i < k ∧ c.Back.getD i false = true
      · rw [if_pos hb, if_pos (show i < k + 1 ∧ c.Back.getD i false = true from ⟨by omega, hb.2⟩)]; omega
      · rw [if_neg hb, if_neg (show ¬ (i < k + 1 ∧ c.Back.getD i false = true) from fun q => hb ⟨by omega, q.2⟩)]; omega
/-- What a push does to the excesses. -/
theorem ex_push {c : Csr} (h : CsrG c) {res : List Int} (hl : res.length = c.Head.length) {a : Int} (ha : 0 ≤ a ∧ a < c.Head.length) (d v : Int) :
    exOf c (addAt (subAt res a d) (c.Rev.getD a.toNat 0) d) v = exOf c res v - (if tailOf c a = v then d else 0) + (if c.Head.getD a.toNat 0 = v then d else 0) := by
  obtain ⟨a, rfl⟩ := Int.eq_ofNat_of_zero_le ha.1
  have ha' : a < c.Head.length := by omega
  have hv := h.rv a ha'
  have hne := h.rne a ha'
  have hbk := h.rbk a ha'
  have hrr := h.rrv a ha'
  have ht := h.rtl a ha'
  have ht2 := h.rtl (c.Rev.getD a 0).toNat (by omega)
  have hv' : (c.Rev.getD a 0).toNat < c.Head.length := by omega
  rw [hrr] at ht2
  rw [Int.toNat_natCast] at ht2
  unfold exOf addAt subAt
  rw [Int.toNat_natCast]
  rw [exK_set (by rw [List.length_set]; omega), exK_set (by omega), getD_set _ _ _ _ (by omega), if_neg (Ne.symm hne), ht, ht2]
  cases hb : c.Back.getD a false with
  | true =>
    rw [hb] at hbk
    simp only [hbk, ha', hv', Bool.not_true, Bool.not_false, and_true, true_and, and_false, if_true, if_false, Bool.false_eq_true]
    split <;> split <;> omega
  | false =>
    rw [hb] at hbk
    simp only [hbk, ha', hv', Bool.not_true, Bool.not_false, and_true, true_and, and_false, if_true, if_false, Bool.false_eq_true]
    split <;> split <;> omega
theorem legal_u {c : Csr} {p : Pre} {e : Event} (h : legalE c p e = 0) : (e.what = 1 ∨ e.what = 2) ∧ 0 ≤ e.u ∧ e.u < c.N ∧ e.u ≠ c.S ∧ e.u ≠ c.T := by
  unfold legalE at h
  split at h
  · cases h
  · omega
theorem legal_lift {c : Csr} {p : Pre} {e : Event} (h : legalE c p e = 0) (hw : e.what = 2) : p.H.getD e.u.toNat 0 < e.h ∧ e.h ≤ 2 * c.N := by
  have hu := legal_u h
  unfold legalE at h
  rw [if_neg (by omega), if_pos hw] at h
  unfold liftE at h
  split at h
  · cases h
  · omega
theorem legal_push {c : Csr} {p : Pre} {e : Event} (h : legalE c p e = 0) (hw : e.what ≠ 2) : c.First.getD e.u.toNat 0 ≤ e.arc ∧ e.arc < c.First.getD (e.u.toNat + 1) 0 ∧ 1 ≤ e.d ∧ e.d ≤ p.Ex.getD e.u.toNat 0 ∧ e.d ≤ p.Res.getD e.arc.toNat 0 ∧ e.h = p.H.getD e.u.toNat 0 ∧ e.low < e.h := by
  have hu := legal_u h
  unfold legalE at h
  rw [if_neg (by omega), if_neg hw] at h
  unfold pushE at h
  have hmt : (e.u + 1).toNat = e.u.toNat + 1 := by omega
  rw [hmt] at h
  split at h
  · cases h
  · split at h
    · cases h
    · omega
theorem tail_of_arc {c : Csr} (h : CsrT c) {u a : Int} (hu : 0 ≤ u ∧ u < c.N) (h1 : c.First.getD u.toNat 0 ≤ a) (h2 : a < c.First.getD (u.toNat + 1) 0) : 0 ≤ a ∧ a < c.Head.length ∧ tailOf c a = u := by
  have hm := h.mono u.toNat (by omega)
  refine ⟨by omega, by omega, ?_⟩
  rw [tail_found (i := u.toNat) (by omega) ⟨h1, h2⟩ fun v hv hc => ?_]
  · omega
  · have := h.up (i := v + 1) (j := u.toNat) (by omega) (by omega)
    obtain ⟨c1, c2⟩ := hc
    omega
theorem right_ok {c : Csr} (h : CsrT c) {p : Pre} (hp : rightP c p) : PreOK c p where
  res := hp.1.1
  ex := hp.1.2.1
  h := hp.1.2.2
  resv := fun a ha => ⟨(hp.2.2.1 a ha).1, (hp.2.2.1 a ha).2.1⟩
  exv := fun v hv => by
    have h1 := (hp.2.2.2 v hv).1
    have h2 := exK_in h (fun a ha => ⟨(hp.2.2.1 a ha).1, (hp.2.2.1 a ha).2.1⟩) (Nat.le_refl _) v
    unfold exOf at h1
    omega
  hv := fun v hv => by
    have h1 := hp.2.1.1 v hv
    have := h.n
    omega
theorem right_len {c : Csr} {p : Pre} (hp : rightP c p) : PreLen c p := ⟨hp.1.1, hp.1.2.1, hp.1.2.2⟩
/-- A sound state stays sound. -/
theorem right_does {c : Csr} (h : CsrG c) {p : Pre} (hp : rightP c p) {e : Event} (hl : legalE c p e = 0) : rightP c (doesP c p e) := by
  have hu := legal_u hl
  obtain ⟨⟨l1, l2, l3⟩, ⟨k1, k2, k3⟩, hpair, hex⟩ := hp
  have hn := h.n
  have hS := h.s
  have hT := h.t
  unfold doesP
  by_cases hw : e.what = 2
  · rw [if_pos hw]
    have hq := legal_lift hl hw
    refine ⟨⟨l1, l2, by simp [l3]⟩, ⟨?_, ?_, ?_⟩, hpair, hex⟩
    · intro v hv
      dsimp only
      rw [getD_set _ _ _ _ (by omega)]
      have := k1 v hv
      have := k1 e.u.toNat (by omega)
      split <;> omega
    · dsimp only; rw [getD_set _ _ _ _ (by omega), if_neg (by omega)]; exact k2
    · dsimp only; rw [getD_set _ _ _ _ (by omega), if_neg (by omega)]; exact k3
  · rw [if_neg hw]
    obtain ⟨a1, a2, a3, a4, a5, a6, a7⟩ := legal_push hl hw
    obtain ⟨t1, t2, t3⟩ := tail_of_arc h.toCsrT ⟨hu.2.1, hu.2.2.1⟩ a1 a2
    have hA : e.arc.toNat < c.Head.length := by omega
    have hv := h.rv e.arc.toNat hA
    have hne := h.rne e.arc.toNat hA
    have hrr := h.rrv e.arc.toNat hA
    have hhd := h.hd e.arc.toNat hA
    have hp1 := hpair e.arc.toNat hA
    have hp2 := hpair (c.Rev.getD e.arc.toNat 0).toNat (by omega)
    have hmr := most_rev h hA
    refine ⟨⟨by simp [addAt, subAt, l1], by simp [addAt, subAt, l2], l3⟩, ⟨k1, k2, k3⟩, ?_, ?_⟩
    · have hget : ∀ j : Nat, (addAt (subAt p.Res e.arc e.d) (c.Rev.getD e.arc.toNat 0) e.d).getD j 0 = p.Res.getD j 0 + (if (c.Rev.getD e.arc.toNat 0).toNat = j then e.d else 0) - (if e.arc.toNat = j then e.d else 0) := by
        intro j
        unfold addAt subAt
        rw [getD_set _ _ _ _ (by rw [List.length_set]; omega), getD_set _ _ _ _ (by omega), getD_set _ _ _ _ (by omega), if_neg (Ne.symm hne)]
        by_cases h1 : (c.Rev.getD e.arc.toNat 0).toNat = j
        · rw [if_pos h1, if_pos h1, if_neg (by omega), h1]; omega
        · rw [if_neg h1, if_neg h1]
          by_cases h2 : e.arc.toNat = j
          · rw [if_pos h2, if_pos h2, h2]; omega
          · rw [if_neg h2, if_neg h2]; omega
      intro b hb
      dsimp only
      rw [hget, hget]
      have hq := hpair b hb
      have hrv := h.rv b hb
      have hrb := h.rrv b hb
      by_cases h1 : (c.Rev.getD e.arc.toNat 0).toNat = b
      · have hb2 : (c.Rev.getD b 0).toNat = e.arc.toNat := by rw [← h1, hrr, Int.toNat_natCast]
        rw [h1] at hmr hp1
        rw [hb2] at hq ⊢
        rw [if_pos h1, if_neg (show ¬ e.arc.toNat = b by omega), if_neg hne]
        simp only [if_true]
        omega
      · by_cases h2 : e.arc.toNat = b
        · rw [← h2] at hq hrb ⊢
          simp only [if_neg hne, if_neg (Ne.symm hne), if_true]
          omega
        · rw [if_neg h1, if_neg h2, if_neg (fun q => ?_), if_neg (fun q => ?_)]
          · omega
          · rw [← q] at hrb
            exact h1 (by omega)
          · rw [← q] at hrb
            omega
    · intro v hv'
      dsimp only
      rw [ex_push h l1 ⟨t1, t2⟩, t3]
      have h1 := hex v hv'
      have h2 := hex e.u.toNat (by omega)
      have hget : (addAt (subAt p.Ex e.u e.d) (c.Head.getD e.arc.toNat 0) e.d).getD v 0 = p.Ex.getD v 0 - (if e.u = (v : Int) then e.d else 0) + (if c.Head.getD e.arc.toNat 0 = (v : Int) then e.d else 0) := by
        unfold addAt subAt
        rw [getD_set _ _ _ _ (by rw [List.length_set]; omega), getD_set _ _ _ _ (by omega), getD_set _ _ _ _ (by omega)]
        by_cases h1 : (c.Head.getD e.arc.toNat 0).toNat = v
        · rw [if_pos h1, if_pos (show c.Head.getD e.arc.toNat 0 = (v : Int) by omega)]
          by_cases h2 : e.u = (v : Int)
          · rw [if_pos h2, if_pos (by omega)]; have : e.u.toNat = v := by omega
            rw [this]
          · rw [if_neg h2, if_neg (by omega), h1]; omega
        · rw [if_neg h1, if_neg (show ¬ c.Head.getD e.arc.toNat 0 = (v : Int) by omega)]
          by_cases h2 : e.u = (v : Int)
          · rw [if_pos h2, if_pos (by omega)]; have : e.u.toNat = v := by omega
            rw [this]; omega
          · rw [if_neg h2, if_neg (by omega)]; omega
      rw [hget]
      refine ⟨by omega, fun hvs => ?_⟩
      have h4 := h1.2 hvs
      by_cases h3 : e.u = (v : Int)
      · rw [if_pos h3]
        have : e.u.toNat = v := by omega
        rw [this] at a4
        split <;> omega
      · rw [if_neg h3]; split <;> omega
end Go.Proofs

set_option linter.unusedVariables false
namespace Go.Proofs
open Go Go.Sx Go.RowKit
/-- A small net: what the statements make of any. -/
structure Small (n : Net) : Prop extends NetOK n where
  sz : n.N ≤ 64 ∧ n.arcs.length ≤ 64
  prod : n.N.toNat * (2 * n.arcs.length) ≤ 2048
  caps : ∀ a ∈ n.arcs, a.cap ≤ 1125899906842624
theorem first_at (n : Net) {v : Nat} (hv : v ≤ n.N.toNat) : (makeC n).First.getD v 0 = ((rowsOf n v).length : Int) := by
  show (firstOf n n.N.toNat ++ [((rows n).length : Int)]).getD v 0 = _
  have hl := firstOf_len n n.N.toNat
  simp only [List.getD]
  rcases Nat.eq_or_lt_of_le hv with h | h
  · subst h
    rw [List.getElem?_append_right (by omega), hl, Nat.sub_self]; rfl
  · rw [List.getElem?_append_left (by omega)]
    simp [firstOf, h]
theorem rowsOf_pre (n : Net) {v w : Nat} (h : v ≤ w) : rowsOf n v <+: rowsOf n w := by
  induction w with
  | zero => have : v = 0 := by omega
            subst this; exact List.prefix_refl _
  | succ w ih =>
    rcases Nat.eq_or_lt_of_le h with h1 | h1
    · subst h1; exact List.prefix_refl _
    · exact (ih (by omega)).trans (by rw [rowsOf_next]; exact List.prefix_append _ _)
theorem rowsOf_mono (n : Net) {v w : Nat} (h : v ≤ w) : (rowsOf n v).length ≤ (rowsOf n w).length := (rowsOf_pre n h).length_le
theorem getD_pre {α : Type} {l m : List α} (h : l <+: m) (d : α) {i : Nat} (hi : i < l.length) : m.getD i d = l.getD i d := by
  obtain ⟨t, rfl⟩ := h
  simp only [List.getD, List.getElem?_append_left hi]
theorem make_ok {n : Net} (h : Small n) : CsrOK (makeC n) where
  toCsrLen := make_len h.toNetOK h.sz
  s := h.s
  t := h.t
  st := h.st
  mono := fun v hv => by
    have hv' : v < n.N.toNat := hv
    rw [first_at n (by omega), first_at n (by omega), make_head]
    have h1 := rowsOf_mono n (show v ≤ v + 1 by omega)
    have h2 : (rowsOf n (v + 1)).length ≤ (rows n).length := rowsOf_mono n (show v + 1 ≤ n.N.toNat by omega)
    omega
  hd := fun a ha => by
    rw [make_head] at ha
    show 0 ≤ ((rows n).map Row.hd).getD a 0 ∧ ((rows n).map Row.hd).getD a 0 < n.N
    rw [getD_hd]
    obtain ⟨k, hk, hne, hc⟩ := row_cases h.toNetOK ha
    have := h.arc hk
    rcases hc with e | e <;> rw [e] <;> dsimp only <;> omega
  rv := fun a ha => by
    rw [make_head] at ha ⊢
    obtain ⟨j, h1, h2, h3, h4, h5⟩ := rev_spec h.toNetOK ha
    rw [h3]; omega
  cp := fun a ha => by
    rw [make_head] at ha
    obtain ⟨k, hk, hne, hc⟩ := row_cases h.toNetOK ha
    have := h.arc hk
    have h1 := cap_le h.toNetOK hk
    have harc : ((rows n).getD a Row.none).arc = (k : Int) := by rcases hc with e | e <;> rw [e]
    rw [most_spec h.toNetOK ha harc]
    refine ⟨?_, by omega, h1⟩
    show 0 ≤ ((rows n).map Row.cap).getD a 0
    rw [getD_cap]
    rcases hc with e | e <;> rw [e] <;> dsimp only <;> omega
theorem make_t {n : Net} (h : Small n) : CsrT (makeC n) where
  toCsrOK := make_ok h
  f0 := by rw [first_at n (by omega)]; rfl
  fN := by
    have : (makeC n).N.toNat = n.N.toNat := rfl
    rw [this, first_at n (Nat.le_refl _), make_head]; rfl
  small := by
    rw [make_head]
    exact Nat.le_trans (rowsOf_len n n.N.toNat) h.prod
  capv := fun a ha => by
    rw [make_head] at ha
    obtain ⟨k, hk, hne, hc⟩ := row_cases h.toNetOK ha
    have harc : ((rows n).getD a Row.none).arc = (k : Int) := by rcases hc with e | e <;> rw [e]
    rw [most_spec h.toNetOK ha harc]
    exact h.caps _ (getD_mem _ hk)
theorem tail_end {n : Net} (h : Small n) {i : Nat} (hi : i < (rows n).length) : tailOf (makeC n) i = endOf n ((rows n).getD i Row.none).key := by
  obtain ⟨v, h1, ⟨h2, h3⟩, h4, _⟩ := (make_t h).tail_at (a := (i : Int)) (by omega) (by rw [make_head]; omega)
  have hv : v < n.N.toNat := h1
  rw [first_at n (by omega)] at h2 h3
  rw [h4]
  have e1 : (rows n).getD i Row.none = (rowsOf n (v + 1)).getD i Row.none := getD_pre (rowsOf_pre n (show v + 1 ≤ n.N.toNat by omega)) _ (by omega)
  rw [e1]
  have hlen : i < (rowsOf n (v + 1)).length := by omega
  have hm : (rowsOf n (v + 1)).getD i Row.none ∈ rowsAt n v n.arcs.length := by
    rw [rowsOf_next] at hlen ⊢
    simp only [List.getD]
    rw [List.getElem?_append_right (by omega)]
    rw [List.length_append] at hlen
    have : i - (rowsOf n v).length < (rowsAt n v n.arcs.length).length := by omega
    rw [List.getElem?_eq_getElem this]
    exact List.getElem_mem _
  exact (end_rowsAt hm).symm
theorem make_g {n : Net} (h : Small n) : CsrG (makeC n) where
  toCsrT := make_t h
  rne := fun a ha => by
    rw [make_head] at ha
    obtain ⟨j, h1, h2, h3, h4, h5⟩ := rev_spec h.toNetOK ha
    rw [h3]; omega
  rrv := fun a ha => by
    rw [make_head] at ha
    obtain ⟨j, h1, h2, h3, h4, h5⟩ := rev_spec h.toNetOK ha
    obtain ⟨j', k1, k2, k3, k4, k5⟩ := rev_spec h.toNetOK h1
    rw [h3, Int.toNat_natCast, k3]
    have : j' = a := key_inj k1 ha (by unfold Row.key; rw [k4, k5, h4, h5]; simp)
    rw [this]
  rbk := fun a ha => by
    rw [make_head] at ha
    obtain ⟨j, h1, h2, h3, h4, h5⟩ := rev_spec h.toNetOK ha
    rw [h3, Int.toNat_natCast]
    show ((rows n).map Row.back).getD j false = !(((rows n).map Row.back).getD a false)
    rw [getD_back, getD_back, h5]
  rtl := fun a ha => by
    rw [make_head] at ha
    obtain ⟨j, h1, h2, h3, h4, h5⟩ := rev_spec h.toNetOK ha
    rw [tail_end h ha, h3, Int.toNat_natCast]
    show _ = ((rows n).map Row.hd).getD j 0
    rw [getD_hd]
    obtain ⟨k, hk, hne, hc⟩ := row_cases h.toNetOK ha
    obtain ⟨k', hk', hne', hc'⟩ := row_cases h.toNetOK h1
    rcases hc with e | e <;> rcases hc' with e' | e' <;> rw [e, e'] at h4 h5 <;> dsimp only at h4 h5
    · cases h5
    · have : k' = k := by omega
      subst this; rw [e, e']; simp [endOf, Row.key]
    · have : k' = k := by omega
      subst this; rw [e, e']; simp [endOf, Row.key]
    · cases h5
/-! ### The first state -/
def sumN (F : Nat → Int) : Nat → Int
  | 0 => 0
  | k + 1 => sumN F k + F k
theorem sumN_add (F G : Nat → Int) : ∀ k, sumN (fun i => F i + G i) k = sumN F k + sumN G k
  | 0 => rfl
  | k + 1 => by simp only [sumN, sumN_add F G k]; omega
theorem sumN_zero {F : Nat → Int} : ∀ {k : Nat}, (∀ i, i < k → F i = 0) → sumN F k = 0
  | 0, _ => rfl
  | k + 1, h => by simp only [sumN]; rw [sumN_zero (fun i hi => h i (by omega)), h k (by omega)]; rfl
theorem sumN_congr {F G : Nat → Int} : ∀ {k : Nat}, (∀ i, i < k → F i = G i) → sumN F k = sumN G k
  | 0, _ => rfl
  | k + 1, h => by simp only [sumN]; rw [sumN_congr (fun i hi => h i (by omega)), h k (by omega)]
theorem sumN_one {F : Nat → Int} {j : Nat} : ∀ {k : Nat}, j < k → (∀ i, i < k → i ≠ j → F i = 0) → sumN F k = F j
  | k + 1, hj, h => by
    simp only [sumN]
    rcases Nat.eq_or_lt_of_le (Nat.le_of_lt_succ hj) with e | hlt
    · subst e; rw [sumN_zero (fun i hi => h i (by omega) (by omega))]; omega
    · rw [sumN_one hlt (fun i hi hne => h i (by omega) hne), h k (by omega) (by omega)]; omega
def sumL (g : Row → Int) (l : List Row) : Int := (l.map g).sum
theorem sumL_app (g : Row → Int) (l m : List Row) : sumL g (l ++ m) = sumL g l + sumL g m := by simp [sumL]
/-- What an arc brings a vertex, by its residual arcs. -/
def gX (n : Net) (f : List Int) (v : Int) (r : Row) : Int := if r.back = true then (if endOf n r.key = v then f.getD r.arc.toNat 0 else 0) - (if r.hd = v then f.getD r.arc.toNat 0 else 0) else 0
theorem exK_sumL {n : Net} (h : Small n) (f : List Int) (v : Int) : ∀ k, k ≤ (rows n).length → exK (makeC n) (resOf (makeC n) f (makeC n).Head.length) k v = sumL (gX n f v) ((rows n).take k)
  | 0, _ => rfl
  | k + 1, hk => by
    simp only [exK]
    rw [exK_sumL h f v k (by omega), take_snoc Row.none (show k < (rows n).length by omega), sumL_app, tail_end h (by omega)]
    congr 1
    show (if ((rows n).map Row.back).getD k false = true then _ else _) = (List.map (gX n f v) [(rows n).getD k Row.none]).sum
    have e2 : (makeC n).Head.getD k 0 = ((rows n).getD k Row.none).hd := getD_hd _ _
    have e3 : (makeC n).Arc.getD k 0 = ((rows n).getD k Row.none).arc := getD_arc _ _
    have e4 : (makeC n).Back.getD k false = ((rows n).getD k Row.none).back := getD_back _ _
    rw [getD_back, e2]
    simp only [List.map_cons, List.map_nil, List.sum_cons, List.sum_nil, Int.add_zero, gX]
    cases hb : ((rows n).getD k Row.none).back with
    | false => rfl
    | true =>
      have e1 : (resOf (makeC n) f (makeC n).Head.length).getD k 0 = f.getD ((rows n).getD k Row.none).arc.toNat 0 := by
        have hlt : k < (makeC n).Head.length := by rw [make_head]; omega
        have : (resOf (makeC n) f (makeC n).Head.length).getD k 0 = resAt (makeC n) f k := by
          simp [resOf, List.getD, hlt]
        rw [this]
        unfold resAt flowAt
        rw [e4, hb, if_pos rfl, e3]
      rw [e1]
theorem rowsOf_sum (n : Net) (g : Row → Int) : ∀ v, sumL g (rowsOf n v) = sumN (fun u => sumL g (rowsAt n (u : Int) n.arcs.length)) v
  | 0 => rfl
  | v + 1 => by rw [rowsOf_next, sumL_app, rowsOf_sum n g v]; rfl
/-- What the first arcs bring a vertex. -/
def arcX (n : Net) (f : List Int) (v : Int) : Nat → Int
  | 0 => 0
  | k + 1 => arcX n f v k + (if (n.arcs.getD k Arc.none).frm = (n.arcs.getD k Arc.none).to then 0 else (if (n.arcs.getD k Arc.none).to = v then f.getD k 0 else 0) - (if (n.arcs.getD k Arc.none).frm = v then f.getD k 0 else 0))
theorem row_sum (n : Net) (f : List Int) (v u : Int) (k : Nat) : sumL (gX n f v) (rowOf u (n.arcs.getD k Arc.none) k) = if (n.arcs.getD k Arc.none).frm = (n.arcs.getD k Arc.none).to then 0 else if (n.arcs.getD k Arc.none).to = u then (if (n.arcs.getD k Arc.none).to = v then f.getD k 0 else 0) - (if (n.arcs.getD k Arc.none).frm = v then f.getD k 0 else 0) else 0 := by
  unfold rowOf
  by_cases h1 : (n.arcs.getD k Arc.none).frm = (n.arcs.getD k Arc.none).to
  · rw [if_pos h1, if_pos h1]; rfl
  · rw [if_neg h1, if_neg h1]
    by_cases h2 : (n.arcs.getD k Arc.none).frm = u
    · rw [if_pos h2]
      by_cases h3 : (n.arcs.getD k Arc.none).to = u
      · exact (h1 (by omega)).elim
      · rw [if_neg h3, if_neg h3]; simp [sumL, gX]
    · rw [if_neg h2]
      by_cases h3 : (n.arcs.getD k Arc.none).to = u
      · rw [if_pos h3, if_pos h3]; simp [sumL, gX, endOf, Row.key]
      · rw [if_neg h3, if_neg h3]; rfl
theorem all_sum {n : Net} (h : NetOK n) (f : List Int) (v : Int) : ∀ m, m ≤ n.arcs.length → sumN (fun u => sumL (gX n f v) (rowsAt n (u : Int) m)) n.N.toNat = arcX n f v m
  | 0, _ => sumN_zero (fun i _ => rfl)
  | m + 1, hm => by
    have h1 := all_sum h f v m (by omega)
    have h2 : sumN (fun u => sumL (gX n f v) (rowsAt n (u : Int) (m + 1))) n.N.toNat = sumN (fun u => sumL (gX n f v) (rowsAt n (u : Int) m) + sumL (gX n f v) (rowOf (u : Int) (n.arcs.getD m Arc.none) m)) n.N.toNat :=
      sumN_congr (fun i _ => by rw [rowsAt_next, sumL_app])
    rw [h2, sumN_add, h1]
    simp only [arcX]
    congr 1
    have ha := h.arc (show m < n.arcs.length by omega)
    by_cases hc : (n.arcs.getD m Arc.none).frm = (n.arcs.getD m Arc.none).to
    · rw [if_pos hc]
      exact sumN_zero (fun i _ => by rw [row_sum, if_pos hc])
    · rw [if_neg hc]
      rw [sumN_one (j := (n.arcs.getD m Arc.none).to.toNat) (by omega) (fun i hi hne => by rw [row_sum, if_neg hc, if_neg (by omega)])]
      rw [row_sum, if_neg hc, if_pos (by omega)]
theorem ex_arcs {n : Net} (h : Small n) (f : List Int) (v : Int) : exOf (makeC n) (resOf (makeC n) f (makeC n).Head.length) v = arcX n f v n.arcs.length := by
  unfold exOf
  rw [show (makeC n).Head.length = (rows n).length from make_head n, ← make_head n, exK_sumL h f v _ (by rw [make_head]; exact Nat.le_refl _), make_head, List.take_length]
  show sumL _ (rowsOf n n.N.toNat) = _
  rw [rowsOf_sum, all_sum h.toNetOK f v _ (Nat.le_refl _)]
end Go.Proofs

set_option linter.unusedVariables false
namespace Go.Proofs
open Go Go.Sx Go.RowKit
open Classical in
theorem begF_get (n : Net) : ∀ m, m ≤ n.arcs.length → ∀ k, k < n.arcs.length → (begF n m).getD k 0 = if k < m ∧ fullArc n k then (n.arcs.getD k Arc.none).cap else 0
  | 0, _, k, hk => by rw [if_neg (by omega)]; simp [begF, List.getD, hk]
  | m + 1, hm, k, hk => by
    simp only [begF]
    have ih := begF_get n m (by omega) k hk
    by_cases hf : fullArc n m
    · rw [if_pos hf, getD_set _ _ _ _ (by rw [begF_len]; omega), ih]
      by_cases e : m = k
      · subst e; rw [if_pos rfl, if_pos ⟨by omega, hf⟩]
      · rw [if_neg e]
        by_cases hc : k < m ∧ fullArc n k
        · rw [if_pos hc, if_pos ⟨by omega, hc.2⟩]
        · rw [if_neg hc, if_neg (fun q => hc ⟨by omega, q.2⟩)]
    · rw [if_neg hf, ih]
      by_cases hc : k < m ∧ fullArc n k
      · rw [if_pos hc, if_pos ⟨by omega, hc.2⟩]
      · rw [if_neg hc, if_neg (fun q => ?_)]
        rcases Nat.lt_or_ge k m with h1 | h1
        · exact hc ⟨h1, q.2⟩
        · have : k = m := by omega
          subst this; exact hf q.2
theorem begX_get {n : Net} (h : NetOK n) (v : Nat) (hv : v < n.N.toNat) : ∀ m, m ≤ n.arcs.length → (begX n m).getD v 0 = arcX n (begF n n.arcs.length) v m
  | 0, _ => by simp [begX, arcX, List.getD, hv]
  | m + 1, hm => by
    have ih := begX_get h v hv m (by omega)
    have hF := begF_get n n.arcs.length (Nat.le_refl _) m (by omega)
    have ha := h.arc (show m < n.arcs.length by omega)
    simp only [begX, arcX]
    by_cases hf : fullArc n m
    · have hne : ¬ (n.arcs.getD m Arc.none).frm = (n.arcs.getD m Arc.none).to := by
        obtain ⟨h1, h2⟩ := hf
        rw [h1]; exact Ne.symm h2
      rw [if_pos ⟨by omega, hf⟩] at hF
      rw [if_pos hf, hF, if_neg hne]
      have hl := begX_len n m
      rw [getD_set _ _ _ _ (by rw [List.length_set]; omega), getD_set _ _ _ _ (by omega), getD_set _ _ _ _ (by omega)]
      rw [if_neg (show ¬ (n.arcs.getD m Arc.none).frm.toNat = (n.arcs.getD m Arc.none).to.toNat by omega)]
      by_cases e1 : (n.arcs.getD m Arc.none).to.toNat = v
      · rw [if_pos e1, if_pos (show (n.arcs.getD m Arc.none).to = (v : Int) by omega), if_neg (show ¬ (n.arcs.getD m Arc.none).frm = (v : Int) by omega), e1, ih]; omega
      · rw [if_neg e1, if_neg (show ¬ (n.arcs.getD m Arc.none).to = (v : Int) by omega)]
        by_cases e2 : (n.arcs.getD m Arc.none).frm.toNat = v
        · rw [if_pos e2, if_pos (show (n.arcs.getD m Arc.none).frm = (v : Int) by omega), e2, ih]; omega
        · rw [if_neg e2, if_neg (show ¬ (n.arcs.getD m Arc.none).frm = (v : Int) by omega), ih]; omega
    · rw [if_neg (fun q => hf q.2)] at hF
      rw [if_neg hf, hF, ih]
      simp only [ite_self, Int.sub_zero, Int.add_zero]
theorem arcX_nonneg {n : Net} (h : NetOK n) (v : Int) (hv : v ≠ n.S) : ∀ m, m ≤ n.arcs.length → 0 ≤ arcX n (begF n n.arcs.length) v m
  | 0, _ => Int.le_refl _
  | m + 1, hm => by
    have ih := arcX_nonneg h v hv m (by omega)
    have hF := begF_get n n.arcs.length (Nat.le_refl _) m (by omega)
    have ha := h.arc (show m < n.arcs.length by omega)
    simp only [arcX]
    by_cases hf : fullArc n m
    · rw [if_pos ⟨by omega, hf⟩] at hF
      rw [hF]
      obtain ⟨h1, h2⟩ := hf
      rw [if_neg (show ¬ (n.arcs.getD m Arc.none).frm = (n.arcs.getD m Arc.none).to by rw [h1]; exact Ne.symm h2), if_neg (show ¬ (n.arcs.getD m Arc.none).frm = v by rw [h1]; exact Ne.symm hv)]
      split <;> omega
    · rw [if_neg (fun q => hf q.2)] at hF
      rw [hF]
      simp only [ite_self, Int.sub_zero, Int.add_zero]
      exact ih
theorem res_get (c : Csr) (f : List Int) {a m : Nat} (h : a < m) : (resOf c f m).getD a 0 = resAt c f a := by simp [resOf, List.getD, h]
/-- What a flow leaves: of an arc and its partner. -/
theorem res_pairs {n : Net} (h : Small n) {f : List Int} (hl : f.length = n.arcs.length) (hf : ∀ k, k < n.arcs.length → 0 ≤ f.getD k 0 ∧ f.getD k 0 ≤ (n.arcs.getD k Arc.none).cap) : pairsP (makeC n) (resOf (makeC n) f (makeC n).Head.length) := by
  intro a ha
  have hg := make_g h
  have hr := res_in h.toNetOK hl hf
  have h1 := hr.flow a ha
  have h2 := hg.rv a ha
  have hb : (makeC n).Rev.getD a 0 < ((makeC n).Head.length : Int) := h2.2
  rw [res_get _ _ ha, res_get _ _ (show ((makeC n).Rev.getD a 0).toNat < (makeC n).Head.length by omega)]
  have hfl : flowAt (makeC n) f ((makeC n).Rev.getD a 0).toNat = flowAt (makeC n) f a := by
    rw [make_head] at ha
    obtain ⟨j, k1, k2, k3, k4, k5⟩ := rev_spec h.toNetOK ha
    unfold flowAt
    rw [k3, Int.toNat_natCast]
    show f.getD (((rows n).map Row.arc).getD j 0).toNat 0 = f.getD (((rows n).map Row.arc).getD a 0).toNat 0
    rw [getD_arc, getD_arc, k4]
  have hbk := hg.rbk a ha
  have hm := most_rev hg ha
  unfold resAt
  rw [hfl, hm, hbk]
  cases (makeC n).Back.getD a false with
  | true => simp only [Bool.not_true, if_true]; rw [if_neg (by decide)]; omega
  | false => simp only [Bool.not_false, if_true]; rw [if_neg (by decide)]; omega
theorem begH_get {n : Net} (h : NetOK n) {v : Nat} (hv : v < n.N.toNat) : (begH n).getD v 0 = if n.S.toNat = v then n.N else 0 := by
  unfold begH
  have := h.s
  rw [getD_set _ _ _ _ (by simp; omega)]
  split
  · rfl
  · simp [List.getD, hv]
theorem beg_right {n : Net} (h : Small n) : rightP (makeC n) (begP n) := by
  have hF := begF_in h.toNetOK n.arcs.length (Nat.le_refl _)
  have hlo := h.lo
  have hs := h.s
  have ht := h.t
  have hst := h.st
  refine ⟨⟨resOf_len _ _ _, begX_len n _, by show (begH n).length = _; simp [begH, makeC]⟩, ⟨?_, ?_, ?_⟩, res_pairs h (begF_len n _) hF, ?_⟩
  · intro v hv
    have hv' : v < n.N.toNat := hv
    show 0 ≤ (begH n).getD v 0 ∧ (begH n).getD v 0 ≤ 2 * n.N
    rw [begH_get h.toNetOK hv']
    split <;> omega
  · show (begH n).getD n.S.toNat 0 = n.N
    rw [begH_get h.toNetOK (by omega), if_pos rfl]
  · show (begH n).getD n.T.toNat 0 = 0
    rw [begH_get h.toNetOK (by omega), if_neg (by omega)]
  · intro v hv
    have hv' : v < n.N.toNat := hv
    have e : (begP n).Ex.getD v 0 = exOf (makeC n) (begP n).Res v := by
      show (begX n n.arcs.length).getD v 0 = exOf (makeC n) (resOf (makeC n) (begF n n.arcs.length) (makeC n).Head.length) v
      rw [ex_arcs h, begX_get h.toNetOK v hv' _ (Nat.le_refl _)]
    refine ⟨e, fun hne => ?_⟩
    show 0 ≤ (begX n n.arcs.length).getD v 0
    rw [begX_get h.toNetOK v hv' _ (Nat.le_refl _)]
    exact arcX_nonneg h.toNetOK _ hne _ (Nat.le_refl _)
/-- Nets that are made of any are small. -/
theorem some_small (n : Net) {va ar : Int} (hva : 2 ≤ va ∧ va ≤ 64) (har : 0 ≤ ar ∧ ar ≤ 64) (hp : va.toNat * (2 * ar.toNat) ≤ 2048) (hn : In64 n.N ∧ In64 n.S ∧ In64 n.T) (hin : ∀ a ∈ n.arcs, In64 a.frm ∧ In64 a.to ∧ In64 a.cap) : Small (someNet n va ar) := by
  have hN : 2 ≤ someN n va ∧ someN n va ≤ va := by
    unfold someN
    have h0 := among_lo n.N (va - 1)
    have h1 := among_hi n.N (n := va - 1) (by omega)
    omega
  have hlen : (someNet n va ar).arcs.length ≤ ar.toNat := by simp only [someNet, List.length_map, List.length_take]; omega
  have hS : 0 ≤ someS n va ∧ someS n va < someN n va := ⟨among_lo _ _, among_hi _ (by omega)⟩
  have hA : ∀ a ∈ (someNet n va ar).arcs, 0 ≤ a.frm ∧ a.frm < someN n va ∧ 0 ≤ a.to ∧ a.to < someN n va ∧ 0 ≤ a.cap ∧ a.cap ≤ 1125899906842624 := by
    intro a ha
    simp only [someNet, List.mem_map] at ha
    obtain ⟨b, hb, rfl⟩ := ha
    have hb' := hin b (List.mem_of_mem_take hb)
    refine ⟨among_lo _ _, among_hi _ (by omega), among_lo _ _, among_hi _ (by omega), ?_⟩
    show 0 ≤ capOf b.cap ∧ capOf b.cap ≤ _
    unfold capOf
    have h0 : 0 ≤ (if b.cap < 0 then -(b.cap + 1) else b.cap) := by split <;> omega
    rw [Int.tmod_eq_emod_of_nonneg h0]
    omega
  have hT : 0 ≤ someT n va ∧ someT n va < someN n va ∧ someS n va ≠ someT n va := by
    have h1 := among_lo n.T (someN n va)
    have h2 := among_hi n.T (n := someN n va) (by omega)
    unfold someT
    split
    · rename_i he
      have h3 : (someS n va + 1).tmod (someN n va) = (someS n va + 1) % (someN n va) := Int.tmod_eq_emod_of_nonneg (by omega)
      rw [h3]
      rcases Int.lt_or_le (someS n va + 1) (someN n va) with h4 | h4
      · rw [Int.emod_eq_of_lt (by omega) h4]; omega
      · have h5 : someS n va + 1 = someN n va := by omega
        rw [h5, Int.emod_self]; omega
    · rename_i he
      exact ⟨h1, h2, he⟩
  have hcs : ∀ l : List Arc, (∀ a ∈ l, 0 ≤ a.cap ∧ a.cap ≤ 1125899906842624) → capSum l ≤ l.length * 1125899906842624 := by
    intro l
    induction l with
    | nil => intro _; simp [capSum]
    | cons a l ih =>
      intro hl
      have h1 := ih (fun b hb => hl b (by simp [hb]))
      have h2 := hl a (by simp)
      have h3 : capSum (a :: l) = a.cap + capSum l := by simp [capSum]
      rw [h3]
      have h4 : ((a :: l).length : Int) = (l.length : Int) + 1 := by simp
      rw [h4, Int.add_mul]
      omega
  refine ⟨⟨hN.1, by show someN n va ≤ 4096; omega, by omega, hS, ⟨hT.1, hT.2.1⟩, hT.2.2, fun a ha => ?_, ?_⟩, ⟨by show someN n va ≤ 64; omega, by omega⟩, ?_, fun a ha => (hA a ha).2.2.2.2.2⟩
  · have := hA a ha
    show 0 ≤ a.frm ∧ a.frm < someN n va ∧ 0 ≤ a.to ∧ a.to < someN n va ∧ 0 ≤ a.cap
    omega
  · have h1 := hcs _ (fun a ha => (hA a ha).2.2.2.2)
    have h2 : ((someNet n va ar).arcs.length : Int) * 1125899906842624 ≤ 64 * 1125899906842624 := Int.mul_le_mul_of_nonneg_right (by omega) (by omega)
    omega
  · have : (someNet n va ar).N.toNat ≤ va.toNat := by show (someN n va).toNat ≤ _; omega
    exact Nat.le_trans (Nat.mul_le_mul this (by omega)) hp
end Go.Proofs

set_option linter.unusedVariables false
namespace Go.Proofs
open Go Go.Sx Go.RowKit
-- f61 "acequia/csr.Len"
set_option maxHeartbeats 8000000 in
set_option synthInstance.maxHeartbeats 400000 in
set_option synthInstance.maxSize 2000 in
theorem t_Len (c : Csr) : Tri Try.prog 61 [.agg [.val (.int .i64 c.N), .val (.int .i64 c.S), .val (.int .i64 c.T), .slc 0 0 c.First.length none, .slc 1 0 c.Head.length none, .slc 2 0 c.Rev.length none, .slc 3 0 c.Cap.length none, .slc 4 0 c.Arc.length none, .slc 5 0 c.Back.length none]] [SO.ints false .i64 c.First, SO.ints false .i64 c.Head, SO.ints false .i64 c.Rev, SO.ints false .i64 c.Cap, SO.ints false .i64 c.Arc, SO.bools false c.Back] (fun s H => s = .val (.int .i64 ((c.Head.length : Nat) : Int)) ∧ H = [SO.ints false .i64 c.First, SO.ints false .i64 c.Head, SO.ints false .i64 c.Rev, SO.ints false .i64 c.Cap, SO.ints false .i64 c.Arc, SO.bools false c.Back]) := by
  refine tri_of_w (fn := Try.f61) Try.func61 rfl (by simp [Try.f61]) ?_
  intro ρ w hρ
  refine w_seq ?_
  -- region 0
  refine w_region ?_
  refine rw_t 1 rfl rfl rfl (n_box_agg (n := 6) rfl rfl ?_)
  refine rw_t 2 rfl rfl rfl (do_assign rfl ?_)
  refine rw_nil ?_
  refine w_seq ?_
  -- region 1
  refine w_region ?_
  refine rw_t 3 rfl rfl rfl (do_fieldaddr rfl ?_)
  refine rw_t 4 rfl rfl rfl (do_load_box rfl rfl rfl ?_)
  refine rw_t 5 rfl rfl rfl (do_len rfl ?_)
  refine rw_t 2 rfl rfl rfl (do_assign rfl ?_)
  refine rw_nil ?_
  refine w_ret ?_
  exact ret_eq (.inl rfl) (.cons (res_tmp rfl) .nil) [0, 1, 2, 3, 4, 5] (rfl) ⟨.inr ⟨_, rfl, .inl rfl⟩, .inr ⟨_, rfl, .inl rfl⟩, .inr ⟨_, rfl, .inl rfl⟩, .inr ⟨_, rfl, .inl rfl⟩, .inr ⟨_, rfl, .inl rfl⟩, .inr ⟨_, rfl, .inl rfl⟩, trivial⟩ rfl (pre_ok rfl)
-- f31 "acequia/csr.Tail"
set_option maxHeartbeats 8000000 in
set_option synthInstance.maxHeartbeats 400000 in
set_option synthInstance.maxSize 2000 in
theorem t_Tail (c : Csr) (a : Int) (h : CsrT c) (ha : 0 ≤ a ∧ a < c.Head.length) : Tri Try.prog 31 [.agg [.val (.int .i64 c.N), .val (.int .i64 c.S), .val (.int .i64 c.T), .slc 0 0 c.First.length none, .slc 1 0 c.Head.length none, .slc 2 0 c.Rev.length none, .slc 3 0 c.Cap.length none, .slc 4 0 c.Arc.length none, .slc 5 0 c.Back.length none], .val (.int .i64 a)] [SO.ints false .i64 c.First, SO.ints false .i64 c.Head, SO.ints false .i64 c.Rev, SO.ints false .i64 c.Cap, SO.ints false .i64 c.Arc, SO.bools false c.Back] (fun s H => s = .tup [.val (.int .i64 (tailOf c a)), .val (.bool true)] ∧ H = [SO.ints false .i64 c.First, SO.ints false .i64 c.Head, SO.ints false .i64 c.Rev, SO.ints false .i64 c.Cap, SO.ints false .i64 c.Arc, SO.bools false c.Back]) := by
  refine tri_of_w (fn := Try.f31) Try.func31 rfl (by simp [Try.f31]) ?_
  intro ρ w hρ
  refine w_seq ?_
  -- region 0
  refine w_region ?_
  refine rw_t 2 rfl rfl rfl (n_box_agg (n := 6) rfl rfl ?_)
  refine rw_t 4 rfl rfl rfl (do_assign rfl ?_)
  refine rw_t 5 rfl rfl rfl (do_assign rfl ?_)
  refine rw_nil ?_
  refine w_seq ?_
  have hn := h.n
  have hf := h.first
  have hhd := h.head
  have hrl := h.rev
  have hcl := h.cap
  have hal := h.arc
  have hbl := h.back
  refine w_seqB 13 ((a < 0 ∨ a ≥ ((c.Head.length : Nat) : Int))) ?_ ?_
  · -- region 1
    refine w_region ?_
    refine rw_t 6 rfl rfl rfl (do_move rfl ?_)
    refine rw_t 7 rfl rfl rfl (do_bin rfl rfl rfl ?_)
    refine rw_t 8 rfl rfl rfl (do_move rfl ?_)
    refine rw_case 8 rfl (fun g1 => ?_) (fun g1 => ?_)
    · have kg1 := g1
      try simp only [bs] at kg1
      refine rw_gf 9 2 8 false rfl rfl rfl rfl rfl rfl (by rw [g1]; decide) ?_
      refine rw_gf 10 2 8 false rfl rfl rfl rfl rfl rfl (by rw [g1]; decide) ?_
      refine rw_gf 11 2 8 false rfl rfl rfl rfl rfl rfl (by rw [g1]; decide) ?_
      refine rw_gf 12 2 8 false rfl rfl rfl rfl rfl rfl (by rw [g1]; decide) ?_
      refine rw_t 13 rfl rfl rfl (do_pick_t rfl g1 rfl ?_)
      refine rw_nil ?_
      refine ⟨rfl, ⟨_, rfl, by first | (simp; done) | (simp only [bs]; omega) | (simp [*]; done) | (simp; omega) | (constructor <;> intro h <;> simp_all <;> omega)⟩, ?_⟩
      repeat (refine ⟨⟨_, rfl, rfl⟩, ?_⟩)
      exact trivial
    · have kg1 := g1
      try simp only [bs] at kg1
      refine rw_gt 9 2 8 false rfl rfl rfl rfl rfl rfl g1 (do_move rfl ?_)
      refine rw_gt 10 2 8 false rfl rfl rfl rfl rfl rfl g1 (n_load_boxagg [_, _, _, _, _, _, _, _, _] rfl rfl (Nat.le_of_ble_eq_true rfl) rfl ?_)
      refine rw_gt 11 2 8 false rfl rfl rfl rfl rfl rfl g1 (do_callR (X' := .val (.int .i64 ((c.Head.length : Nat) : Int))) rfl rfl (t_Len (c := c)) [0, 1, 2, 3, 4, 5] ⟨.inr ⟨_, rfl, srv⟩, .inr ⟨_, rfl, srv⟩, .inr ⟨_, rfl, srv⟩, .inr ⟨_, rfl, srv⟩, .inr ⟨_, rfl, srv⟩, .inr ⟨_, rfl, srv⟩, trivial⟩ rfl rfl rfl ?_)
      refine rw_gt 12 2 8 false rfl rfl rfl rfl rfl rfl g1 (do_bin rfl rfl rfl ?_)
      refine rw_t 13 rfl rfl rfl (do_pick_f rfl g1 rfl ?_)
      refine rw_nil ?_
      refine ⟨rfl, ⟨_, rfl, by first | (simp; done) | (simp only [bs]; omega) | (simp [*]; done) | (simp; omega) | (constructor <;> intro h <;> simp_all <;> omega)⟩, ?_⟩
      repeat (refine ⟨⟨_, rfl, rfl⟩, ?_⟩)
      exact trivial
  intro b1 hb1
  refine w_condP hb1 rfl (fun hc1 => ?_) (fun hc1 => ?_)
  · exfalso; omega
  refine w_skip ?_
  refine w_seq ?_
  obtain ⟨v, q1, q2, q3, q4⟩ := h.tail_at ha.1 ha.2
  -- region 3
  refine w_region ?_
  refine rw_t 14 rfl rfl rfl (do_fieldaddr rfl ?_)
  refine rw_t 15 rfl rfl rfl (do_load_box rfl rfl rfl ?_)
  refine rw_t 16 rfl rfl rfl (do_move rfl ?_)
  refine rw_t 17 rfl rfl rfl (do_add rfl rfl (by omega) ?_)
  refine rw_t 18 rfl rfl rfl (do_callR (X' := .val (.int .i64 (((searchI c.First (a + 1)) : Nat) : Int))) rfl rfl (t_SearchInts (xs := c.First) (x := (a + 1)) (by omega) (fun i j hij hj => h.up hij (by omega))) [0] ⟨.inr ⟨_, rfl, srv⟩, trivial⟩ rfl rfl rfl ?_)
  refine rw_t 19 rfl rfl rfl (do_sub rfl rfl (by omega) ?_)
  refine rw_as (.val (.int .i64 (tailOf c a))) (val_congr (by rw [q3]; exact q4)) ?_
  refine rw_t 4 rfl rfl rfl (do_assign rfl ?_)
  refine rw_t 5 rfl rfl rfl (do_assign rfl ?_)
  refine rw_nil ?_
  refine w_ret ?_
  exact ret_eq (.inl rfl) (.cons (res_tmp rfl) (.cons (res_tmp rfl) .nil)) [0, 1, 2, 3, 4, 5] (rfl) ⟨.inr ⟨_, rfl, .inl rfl⟩, .inr ⟨_, rfl, .inl rfl⟩, .inr ⟨_, rfl, .inl rfl⟩, .inr ⟨_, rfl, .inl rfl⟩, .inr ⟨_, rfl, .inl rfl⟩, .inr ⟨_, rfl, .inl rfl⟩, trivial⟩ rfl (pre_ok rfl)
-- f43 "slices.Clone[[]int64,int64]"
set_option maxHeartbeats 8000000 in
set_option synthInstance.maxHeartbeats 400000 in
set_option synthInstance.maxSize 2000 in
theorem t_CloneLongs (xs : List Int) (hl : xs.length ≤ 17592186044416) : Tri Try.prog 43 [.slc 0 0 xs.length none] [SO.ints false .i64 xs] (fun s H => s = .slc 1 0 xs.length none ∧ H = [SO.ints false .i64 xs, SO.ints true .i64 xs]) := by
  refine tri_of_w (fn := Try.f43) Try.func43 rfl (by simp [Try.f43]) ?_
  intro ρ w hρ
  refine w_seq ?_
  -- region 0
  refine w_region ?_
  refine rw_t 2 rfl rfl rfl (do_assign rfl ?_)
  refine rw_nil ?_
  refine w_seq ?_
  refine w_seq ?_
  -- region 1
  refine w_region ?_
  refine rw_t 3 rfl rfl rfl (do_move rfl ?_)
  refine rw_t 4 rfl rfl rfl (do_slnil (rt := 0) rfl (fun nb1 hnb1 => ?_))
  refine rw_nil ?_
  refine w_cond rfl (fun hc1 => ?_) (fun hc1 => ?_)
  all_goals try simp only [bs] at hc1
  · refine w_seq ?_
    -- region 2
    refine w_region ?_
    refine rw_t 2 rfl rfl rfl (do_assign rfl ?_)
    refine rw_nil ?_
    have hz := hnb1 hc1
    refine n_ghost Int 1 (encI .i64) 0 (fun _ => rfl) (fun _ _ h => by simp [encI] at h; subst h; rfl) ?_
    refine w_nilE 2 1 0 rfl ?_
    refine w_ret ?_
    exact ret_eq (.inl rfl) (.cons (res_tmp rfl) .nil) [0, 1] (congrArg (fun n => SV.slc 1 0 n none) hz.symm) ⟨.inr ⟨_, rfl, .inl rfl⟩, .inr ⟨_, rfl, .inl (congrArg (SO.ints true .i64) (List.eq_nil_of_length_eq_zero hz))⟩, trivial⟩ rfl (pre_ok rfl)
  refine w_skip ?_
  refine w_seq ?_
  -- region 3
  refine w_region ?_
  refine rw_t 5 rfl rfl rfl (n_bs (nm := 1) Int (encI .i64) 0 [] rfl rfl rfl rfl rfl (fun _ => rfl) (fun _ _ h => by simp [encI] at h; subst h; rfl) rfl ?_)
  refine rw_t 6 rfl rfl rfl (do_move rfl ?_)
  refine rw_t 7 rfl rfl rfl (n_app_e (nm := 2) rfl rfl rfl rfl rfl (by first | omega | (simp only [ls] <;> omega)) (by omega) (by omega) rfl ?_)
  refine rw_t 2 rfl rfl rfl (do_assign rfl ?_)
  refine rw_nil ?_
  refine w_ret ?_
  exact ret_eq (.inl rfl) (.cons (res_tmp rfl) .nil) [0, 2] (rfl) ⟨.inr ⟨_, rfl, .inl rfl⟩, .inr ⟨_, rfl, .inl rfl⟩, trivial⟩ rfl (pre_ok rfl)
-- f50 "slices.Clone[[]int,int]"
set_option maxHeartbeats 8000000 in
set_option synthInstance.maxHeartbeats 400000 in
set_option synthInstance.maxSize 2000 in
theorem t_CloneInts (xs : List Int) (hl : xs.length ≤ 17592186044416) : Tri Try.prog 50 [.slc 0 0 xs.length none] [SO.ints false .i64 xs] (fun s H => s = .slc 1 0 xs.length none ∧ H = [SO.ints false .i64 xs, SO.ints true .i64 xs]) := by
  refine tri_of_w (fn := Try.f50) Try.func50 rfl (by simp [Try.f50]) ?_
  intro ρ w hρ
  refine w_seq ?_
  -- region 0
  refine w_region ?_
  refine rw_t 2 rfl rfl rfl (do_assign rfl ?_)
  refine rw_nil ?_
  refine w_seq ?_
  refine w_seq ?_
  -- region 1
  refine w_region ?_
  refine rw_t 3 rfl rfl rfl (do_move rfl ?_)
  refine rw_t 4 rfl rfl rfl (do_slnil (rt := 0) rfl (fun nb1 hnb1 => ?_))
  refine rw_nil ?_
  refine w_cond rfl (fun hc1 => ?_) (fun hc1 => ?_)
  all_goals try simp only [bs] at hc1
  · refine w_seq ?_
    -- region 2
    refine w_region ?_
    refine rw_t 2 rfl rfl rfl (do_assign rfl ?_)
    refine rw_nil ?_
    have hz := hnb1 hc1
    refine n_ghost Int 1 (encI .i64) 0 (fun _ => rfl) (fun _ _ h => by simp [encI] at h; subst h; rfl) ?_
    refine w_nilE 2 1 0 rfl ?_
    refine w_ret ?_
    exact ret_eq (.inl rfl) (.cons (res_tmp rfl) .nil) [0, 1] (congrArg (fun n => SV.slc 1 0 n none) hz.symm) ⟨.inr ⟨_, rfl, .inl rfl⟩, .inr ⟨_, rfl, .inl (congrArg (SO.ints true .i64) (List.eq_nil_of_length_eq_zero hz))⟩, trivial⟩ rfl (pre_ok rfl)
  refine w_skip ?_
  refine w_seq ?_
  -- region 3
  refine w_region ?_
  refine rw_t 5 rfl rfl rfl (n_bs (nm := 1) Int (encI .i64) 0 [] rfl rfl rfl rfl rfl (fun _ => rfl) (fun _ _ h => by simp [encI] at h; subst h; rfl) rfl ?_)
  refine rw_t 6 rfl rfl rfl (do_move rfl ?_)
  refine rw_t 7 rfl rfl rfl (n_app_e (nm := 2) rfl rfl rfl rfl rfl (by first | omega | (simp only [ls] <;> omega)) (by omega) (by omega) rfl ?_)
  refine rw_t 2 rfl rfl rfl (do_assign rfl ?_)
  refine rw_nil ?_
  refine w_ret ?_
  exact ret_eq (.inl rfl) (.cons (res_tmp rfl) .nil) [0, 2] (rfl) ⟨.inr ⟨_, rfl, .inl rfl⟩, .inr ⟨_, rfl, .inl rfl⟩, trivial⟩ rfl (pre_ok rfl)
-- f16 "acequia/pre.Copy"
set_option maxHeartbeats 8000000 in
set_option synthInstance.maxHeartbeats 400000 in
set_option synthInstance.maxSize 2000 in
theorem t_Copy (p : Pre) (hl : p.Res.length ≤ 17592186044416 ∧ p.Ex.length ≤ 17592186044416 ∧ p.H.length ≤ 17592186044416) : Tri Try.prog 16 [.agg [.slc 0 0 p.Res.length none, .slc 1 0 p.Ex.length none, .slc 2 0 p.H.length none]] [SO.ints false .i64 p.Res, SO.ints false .i64 p.Ex, SO.ints false .i64 p.H] (fun s H => s = .agg [.slc 3 0 p.Res.length none, .slc 4 0 p.Ex.length none, .slc 5 0 p.H.length none] ∧ H = [SO.ints false .i64 p.Res, SO.ints false .i64 p.Ex, SO.ints false .i64 p.H, SO.ints true .i64 p.Res, SO.ints true .i64 p.Ex, SO.ints true .i64 p.H]) := by
  refine tri_of_w (fn := Try.f16) Try.func16 rfl (by simp [Try.f16]) ?_
  intro ρ w hρ
  refine w_seq ?_
  -- region 0
  refine w_region ?_
  refine rw_t 1 rfl rfl rfl (n_box_agg (n := 3) rfl rfl ?_)
  refine rw_t 2 rfl rfl rfl (n_alloc (n := 4) rfl ?_)
  refine rw_nil ?_
  refine w_seq ?_
  -- region 1
  refine w_draw mixed [0, 1, 3, 0, 8, 31, 0, 64] [255, 511, 1023] (by kernel_rfl) (by kernel_rfl) rfl rfl rfl (hle hρ rfl) ?_
  refine ra_q (j := 0) rfl rfl rfl rfl (do_fieldaddr rfl ⟨rfl, rfl⟩) (by rfl) ?_
  refine ra_q (j := 1) rfl rfl rfl rfl (do_load_box rfl rfl rfl ⟨rfl, rfl⟩) (by rfl) ?_
  refine ra_n (j := 2) rfl rfl rfl rfl (g_callN (X' := .slc 5 0 p.Res.length none) (N' := [SO.ints true .i64 p.Res]) rfl rfl (t_CloneLongs (xs := p.Res) (by omega)) [0] ⟨.inr ⟨_, rfl, srv⟩, trivial⟩ rfl rfl rfl rfl rfl ⟨rfl, rfl⟩) (by rfl) (by rfl) (by rfl) ?_
  refine ra_q (j := 3) rfl rfl rfl rfl (do_fieldaddr rfl ⟨rfl, rfl⟩) (by rfl) ?_
  refine ra_q (j := 4) rfl rfl rfl rfl (do_load_box rfl rfl rfl ⟨rfl, rfl⟩) (by rfl) ?_
  refine ra_n (j := 5) rfl rfl rfl rfl (g_callN (X' := .slc 6 0 p.Ex.length none) (N' := [SO.ints true .i64 p.Ex]) rfl rfl (t_CloneLongs (xs := p.Ex) (by omega)) [1] ⟨.inr ⟨_, rfl, srv⟩, trivial⟩ rfl rfl rfl rfl rfl ⟨rfl, rfl⟩) (by rfl) (by rfl) (by rfl) ?_
  refine ra_q (j := 6) rfl rfl rfl rfl (do_fieldaddr rfl ⟨rfl, rfl⟩) (by rfl) ?_
  refine ra_q (j := 7) rfl rfl rfl rfl (do_load_box rfl rfl rfl ⟨rfl, rfl⟩) (by rfl) ?_
  refine n_done ?_
  refine rw_t 11 rfl rfl rfl (n_callN (X' := .slc 7 0 p.H.length none) (N' := [SO.ints true .i64 p.H]) rfl rfl (t_CloneInts (xs := p.H) (by omega)) [2] ⟨.inr ⟨_, rfl, srv⟩, trivial⟩ rfl rfl rfl rfl rfl ?_)
  refine rw_t 12 rfl rfl rfl (do_build (out := [_, _, _]) rfl rfl ?_)
  refine rw_u rfl rfl (n_store_whole rfl rfl rfl rfl rfl rfl ?_)
  refine rw_nil ?_
  refine w_ret ?_
  exact ret_eq (.inl rfl) (.cons (res_agg rfl rfl (Nat.le_of_ble_eq_true rfl)) .nil) [0, 1, 2, 5, 6, 7] (rfl) ⟨.inr ⟨_, rfl, .inl rfl⟩, .inr ⟨_, rfl, .inl rfl⟩, .inr ⟨_, rfl, .inl rfl⟩, .inr ⟨_, rfl, .inl rfl⟩, .inr ⟨_, rfl, .inl rfl⟩, .inr ⟨_, rfl, .inl rfl⟩, trivial⟩ rfl (pre_ok rfl)
end Go.Proofs

set_option linter.unusedVariables false
namespace Go.Proofs
open Go Go.Sx Go.RowKit
/-- So much from an arc to its reverse. -/
def moveP (c : Csr) (p : Pre) (a : Int) (d : Int) : Pre :=
  ⟨addAt (subAt p.Res a d) (c.Rev.getD a.toNat 0) d, addAt (subAt p.Ex (c.Head.getD (c.Rev.getD a.toNat 0).toNat 0) d) (c.Head.getD a.toNat 0) d, p.H⟩
def In1 (x : Int) : Prop := -9223372036854775808 ≤ x ∧ x < 9223372036854775808
structure MoveIn (c : Csr) (p : Pre) (a d : Int) : Prop where
  r1 : In1 (p.Res.getD a.toNat 0 - d)
  r2 : In1 ((subAt p.Res a d).getD (c.Rev.getD a.toNat 0).toNat 0 + d)
  x1 : In1 (p.Ex.getD (c.Head.getD (c.Rev.getD a.toNat 0).toNat 0).toNat 0 - d)
  x2 : In1 ((subAt p.Ex (c.Head.getD (c.Rev.getD a.toNat 0).toNat 0) d).getD (c.Head.getD a.toNat 0).toNat 0 + d)
-- f45 "acequia/pre.move"
set_option maxHeartbeats 8000000 in
set_option synthInstance.maxHeartbeats 400000 in
set_option synthInstance.maxSize 2000 in
theorem t_move (c : Csr) (p : Pre) (h : CsrOK c) (hp : PreLen c p) (a d : Int) (ha : 0 ≤ a ∧ a < c.Head.length) (hm : MoveIn c p a d) : Tri Try.prog 45 [.agg [.val (.int .i64 c.N), .val (.int .i64 c.S), .val (.int .i64 c.T), .slc 0 0 c.First.length none, .slc 1 0 c.Head.length none, .slc 2 0 c.Rev.length none, .slc 3 0 c.Cap.length none, .slc 4 0 c.Arc.length none, .slc 5 0 c.Back.length none], .ptr 9 0 0, .val (.int .i64 a), .val (.int .i64 d)] [SO.ints false .i64 c.First, SO.ints false .i64 c.Head, SO.ints false .i64 c.Rev, SO.ints false .i64 c.Cap, SO.ints false .i64 c.Arc, SO.bools false c.Back, SO.ints true .i64 p.Res, SO.ints true .i64 p.Ex, SO.ints true .i64 p.H, .box [.slc 6 0 p.Res.length none, .slc 7 0 p.Ex.length none, .slc 8 0 p.H.length none]] (fun s H => s = .tup [] ∧ H = [SO.ints false .i64 c.First, SO.ints false .i64 c.Head, SO.ints false .i64 c.Rev, SO.ints false .i64 c.Cap, SO.ints false .i64 c.Arc, SO.bools false c.Back, SO.ints true .i64 ((moveP c p a d).Res), SO.ints true .i64 ((moveP c p a d).Ex), SO.ints true .i64 p.H, .box [.slc 6 0 p.Res.length none, .slc 7 0 p.Ex.length none, .slc 8 0 p.H.length none]]) := by
  refine tri_of_w (fn := Try.f45) Try.func45 rfl (by simp [Try.f45]) ?_
  intro ρ w hρ
  refine w_seq ?_
  have hn := h.n
  have hf := h.first
  have hhd := h.head
  have hrl := h.rev
  have hcl := h.cap
  have hal := h.arc
  have hbl := h.back
  have hr := hp.res
  have hx := hp.ex
  have hh := hp.h
  have hv := h.rv a.toNat (by omega)
  have hd1 := h.hd a.toNat (by omega)
  have hd2 := h.hd (c.Rev.getD a.toNat 0).toNat (by omega)
  obtain ⟨m1, m2⟩ := hm.r1
  obtain ⟨m3, m4⟩ := hm.r2
  obtain ⟨m5, m6⟩ := hm.x1
  obtain ⟨m7, m8⟩ := hm.x2
  simp only [subAt] at m3 m4 m7 m8
  -- region 0
  refine w_region ?_
  refine rw_t 4 rfl rfl rfl (n_box_agg (n := 10) rfl rfl ?_)
  refine rw_nil ?_
  refine w_seq ?_
  -- region 1
  refine w_draw mixed [0, 1, 0, 4, 0, 28, 60] [127, 255, 511] (by kernel_rfl) (by kernel_rfl) rfl rfl rfl (hle hρ rfl) ?_
  refine ra_q (j := 0) rfl rfl rfl rfl (do_fieldaddr rfl ⟨rfl, rfl⟩) (by rfl) ?_
  refine ra_q (j := 1) rfl rfl rfl rfl (do_load_box rfl rfl rfl ⟨rfl, rfl⟩) (by rfl) ?_
  refine ra_q (j := 2) rfl rfl rfl rfl (do_fieldaddr rfl ⟨rfl, rfl⟩) (by rfl) ?_
  refine ra_q (j := 3) rfl rfl rfl rfl (do_load_box rfl rfl rfl ⟨rfl, rfl⟩) (by rfl) ?_
  refine ra_q (j := 4) rfl rfl rfl rfl (do_move rfl ⟨rfl, rfl⟩) (by rfl) ?_
  refine ra_q (j := 5) rfl rfl rfl rfl (do_ix0 rfl rfl rfl (by first | omega | (simp only [ls] <;> omega)) ⟨rfl, rfl⟩) (by rfl) ?_
  refine ra_q (j := 6) rfl rfl rfl rfl (do_load_arr rfl rfl (by first | omega | (simp only [ls] <;> omega)) rfl ⟨rfl, rfl⟩) (by rfl) ?_
  refine n_done ?_
  refine rw_t 16 rfl rfl rfl (do_ix0 rfl rfl rfl (by first | omega | (simp only [ls] <;> omega)) ?_)
  refine rw_t 17 rfl rfl rfl (do_load_arr rfl rfl (by first | omega | (simp only [ls] <;> omega)) rfl ?_)
  refine rw_t 8 rfl rfl rfl (do_assign rfl ?_)
  refine rw_nil ?_
  refine w_seq ?_
  -- region 2
  refine w_region ?_
  refine rw_t 18 rfl rfl rfl (do_move rfl ?_)
  refine rw_t 19 rfl rfl rfl (do_nilcheck rfl ?_)
  refine rw_t 20 rfl rfl rfl (do_fieldaddr rfl ?_)
  refine rw_t 21 rfl rfl rfl (do_load_box rfl rfl rfl ?_)
  refine rw_t 22 rfl rfl rfl (do_move rfl ?_)
  refine rw_t 23 rfl rfl rfl (do_ix0 rfl rfl rfl (by first | omega | (simp only [ls] <;> omega)) ?_)
  refine rw_t 24 rfl rfl rfl (do_load_arr rfl rfl (by first | omega | (simp only [ls] <;> omega)) rfl ?_)
  refine rw_t 25 rfl rfl rfl (do_move rfl ?_)
  refine rw_t 26 rfl rfl rfl (do_sub rfl rfl (by omega) ?_)
  refine rw_t 27 rfl rfl rfl (do_ix0 rfl rfl rfl (by first | omega | (simp only [ls] <;> omega)) ?_)
  refine rw_u rfl rfl (n_store_arr (z := ((p.Res.getD a.toNat 0) - d)) rfl rfl rfl (by first | omega | (simp only [ls] <;> omega)) rfl (by decide) rfl ?_)
  refine rw_nil ?_
  refine w_seq ?_
  -- region 3
  refine w_draw mixed [0, 1, 3, 7, 0, 16, 0, 112, 240, 511, 1023, 0] [4095, 8191, 16383] (by kernel_rfl) (by kernel_rfl) rfl rfl rfl (hle hρ rfl) ?_
  refine ra_q (j := 0) rfl rfl rfl rfl (do_move rfl ⟨rfl, rfl⟩) (by rfl) ?_
  refine ra_q (j := 1) rfl rfl rfl rfl (do_nilcheck rfl ⟨rfl, rfl⟩) (by rfl) ?_
  refine ra_q (j := 2) rfl rfl rfl rfl (do_fieldaddr rfl ⟨rfl, rfl⟩) (by rfl) ?_
  refine ra_q (j := 3) rfl rfl rfl rfl (do_load_box rfl rfl rfl ⟨rfl, rfl⟩) (by rfl) ?_
  refine ra_q (j := 4) rfl rfl rfl rfl (do_fieldaddr rfl ⟨rfl, rfl⟩) (by rfl) ?_
  refine ra_q (j := 5) rfl rfl rfl rfl (do_load_box rfl rfl rfl ⟨rfl, rfl⟩) (by rfl) ?_
  refine ra_q (j := 6) rfl rfl rfl rfl (do_move rfl ⟨rfl, rfl⟩) (by rfl) ?_
  refine ra_q (j := 7) rfl rfl rfl rfl (do_ix0 rfl rfl rfl (by first | omega | (simp only [ls] <;> omega)) ⟨rfl, rfl⟩) (by rfl) ?_
  refine ra_q (j := 8) rfl rfl rfl rfl (do_load_arr rfl rfl (by first | omega | (simp only [ls] <;> omega)) rfl ⟨rfl, rfl⟩) (by rfl) ?_
  refine ra_q (j := 9) rfl rfl rfl rfl (do_ix0 rfl rfl rfl (by first | omega | (simp only [ls] <;> omega)) ⟨rfl, rfl⟩) (by rfl) ?_
  refine ra_q (j := 10) rfl rfl rfl rfl (do_load_arr rfl rfl (by first | omega | (simp only [ls] <;> omega)) rfl ⟨rfl, rfl⟩) (by rfl) ?_
  refine ra_q (j := 11) rfl rfl rfl rfl (do_move rfl ⟨rfl, rfl⟩) (by rfl) ?_
  refine n_done ?_
  refine rw_t 40 rfl rfl rfl (do_add rfl rfl (by omega) ?_)
  refine rw_t 41 rfl rfl rfl (do_ix0 rfl rfl rfl (by first | omega | (simp only [ls] <;> omega)) ?_)
  refine rw_u rfl rfl (n_store_arr (z := (((p.Res.set a.toNat ((p.Res.getD a.toNat 0) - d)).getD ((c.Rev.getD a.toNat 0).toNat) 0) + d)) rfl rfl rfl (by first | omega | (simp only [ls] <;> omega)) rfl (by decide) rfl ?_)
  refine rw_nil ?_
  refine w_seq ?_
  -- region 4
  refine w_region ?_
  refine rw_t 42 rfl rfl rfl (do_move rfl ?_)
  refine rw_t 43 rfl rfl rfl (do_nilcheck rfl ?_)
  refine rw_t 44 rfl rfl rfl (do_fieldaddr rfl ?_)
  refine rw_t 45 rfl rfl rfl (do_load_box rfl rfl rfl ?_)
  refine rw_t 46 rfl rfl rfl (do_move rfl ?_)
  refine rw_t 47 rfl rfl rfl (do_ix0 rfl rfl rfl (by first | omega | (simp only [ls] <;> omega)) ?_)
  refine rw_t 48 rfl rfl rfl (do_load_arr rfl rfl (by first | omega | (simp only [ls] <;> omega)) rfl ?_)
  refine rw_t 49 rfl rfl rfl (do_move rfl ?_)
  refine rw_t 50 rfl rfl rfl (do_sub rfl rfl (by omega) ?_)
  refine rw_t 51 rfl rfl rfl (do_ix0 rfl rfl rfl (by first | omega | (simp only [ls] <;> omega)) ?_)
  refine rw_u rfl rfl (n_store_arr (z := ((p.Ex.getD ((c.Head.getD ((c.Rev.getD a.toNat 0).toNat) 0).toNat) 0) - d)) rfl rfl rfl (by first | omega | (simp only [ls] <;> omega)) rfl (by decide) rfl ?_)
  refine rw_nil ?_
  -- region 5
  refine w_draw mixed [0, 1, 3, 7, 0, 16, 0, 112, 240, 511, 1023, 0] [4095, 8191, 16383] (by kernel_rfl) (by kernel_rfl) rfl rfl rfl (hle hρ rfl) ?_
  refine ra_q (j := 0) rfl rfl rfl rfl (do_move rfl ⟨rfl, rfl⟩) (by rfl) ?_
  refine ra_q (j := 1) rfl rfl rfl rfl (do_nilcheck rfl ⟨rfl, rfl⟩) (by rfl) ?_
  refine ra_q (j := 2) rfl rfl rfl rfl (do_fieldaddr rfl ⟨rfl, rfl⟩) (by rfl) ?_
  refine ra_q (j := 3) rfl rfl rfl rfl (do_load_box rfl rfl rfl ⟨rfl, rfl⟩) (by rfl) ?_
  refine ra_q (j := 4) rfl rfl rfl rfl (do_fieldaddr rfl ⟨rfl, rfl⟩) (by rfl) ?_
  refine ra_q (j := 5) rfl rfl rfl rfl (do_load_box rfl rfl rfl ⟨rfl, rfl⟩) (by rfl) ?_
  refine ra_q (j := 6) rfl rfl rfl rfl (do_move rfl ⟨rfl, rfl⟩) (by rfl) ?_
  refine ra_q (j := 7) rfl rfl rfl rfl (do_ix0 rfl rfl rfl (by first | omega | (simp only [ls] <;> omega)) ⟨rfl, rfl⟩) (by rfl) ?_
  refine ra_q (j := 8) rfl rfl rfl rfl (do_load_arr rfl rfl (by first | omega | (simp only [ls] <;> omega)) rfl ⟨rfl, rfl⟩) (by rfl) ?_
  refine ra_q (j := 9) rfl rfl rfl rfl (do_ix0 rfl rfl rfl (by first | omega | (simp only [ls] <;> omega)) ⟨rfl, rfl⟩) (by rfl) ?_
  refine ra_q (j := 10) rfl rfl rfl rfl (do_load_arr rfl rfl (by first | omega | (simp only [ls] <;> omega)) rfl ⟨rfl, rfl⟩) (by rfl) ?_
  refine ra_q (j := 11) rfl rfl rfl rfl (do_move rfl ⟨rfl, rfl⟩) (by rfl) ?_
  refine n_done ?_
  refine rw_t 64 rfl rfl rfl (do_add rfl rfl (by omega) ?_)
  refine rw_t 65 rfl rfl rfl (do_ix0 rfl rfl rfl (by first | omega | (simp only [ls] <;> omega)) ?_)
  refine rw_u rfl rfl (n_store_arr (z := (((p.Ex.set ((c.Head.getD ((c.Rev.getD a.toNat 0).toNat) 0).toNat) ((p.Ex.getD ((c.Head.getD ((c.Rev.getD a.toNat 0).toNat) 0).toNat) 0) - d)).getD ((c.Head.getD a.toNat 0).toNat) 0) + d)) rfl rfl rfl (by first | omega | (simp only [ls] <;> omega)) rfl (by decide) rfl ?_)
  refine rw_nil ?_
  exact ret_eq (.inr rfl) (.nil) [0, 1, 2, 3, 4, 5, 6, 7, 8, 9] (rfl) ⟨.inr ⟨_, rfl, .inl rfl⟩, .inr ⟨_, rfl, .inl rfl⟩, .inr ⟨_, rfl, .inl rfl⟩, .inr ⟨_, rfl, .inl rfl⟩, .inr ⟨_, rfl, .inl rfl⟩, .inr ⟨_, rfl, .inl rfl⟩, .inr ⟨_, rfl, .inl rfl⟩, .inr ⟨_, rfl, .inl rfl⟩, .inr ⟨_, rfl, .inl rfl⟩, .inr ⟨_, rfl, .inl rfl⟩, trivial⟩ rfl (pre_ok rfl)
end Go.Proofs

set_option linter.unusedVariables false
namespace Go.Proofs
open Go Go.Sx Go.RowKit
/-- P7.1: the first state, with k of S's arcs full on. -/
def begK (c : Csr) : Nat → Pre
  | 0 => ⟨c.Cap, List.replicate c.N.toNat 0, (List.replicate c.N.toNat 0).set c.S.toNat c.N⟩
  | k + 1 => moveP c (begK c k) (c.First.getD c.S.toNat 0 + k) ((begK c k).Res.getD (c.First.getD c.S.toNat 0 + k).toNat 0)
def begC (c : Csr) : Pre := begK c (c.First.getD (c.S + 1).toNat 0 - c.First.getD c.S.toNat 0).toNat
theorem moveP_len (c : Csr) (p : Pre) (a d : Int) : (moveP c p a d).Res.length = p.Res.length ∧ (moveP c p a d).Ex.length = p.Ex.length ∧ (moveP c p a d).H.length = p.H.length := by
  simp [moveP, addAt, subAt]
theorem begK_len {c : Csr} (h : CsrLen c) : ∀ k, PreLen c (begK c k)
  | 0 => ⟨h.cap, by simp [begK], by simp [begK]⟩
  | k + 1 => by
    have := begK_len h k
    obtain ⟨l1, l2, l3⟩ := moveP_len c (begK c k) (c.First.getD c.S.toNat 0 + k) ((begK c k).Res.getD (c.First.getD c.S.toNat 0 + k).toNat 0)
    exact ⟨l1.trans this.res, l2.trans this.ex, l3.trans this.h⟩
/-- The moves that the first state is made of stay within. -/
def BegIn (c : Csr) : Prop := ∀ k : Nat, k < (c.First.getD (c.S + 1).toNat 0 - c.First.getD c.S.toNat 0).toNat → MoveIn c (begK c k) (c.First.getD c.S.toNat 0 + k) ((begK c k).Res.getD (c.First.getD c.S.toNat 0 + k).toNat 0)
-- f44 "acequia/pre.arcs"
set_option maxHeartbeats 8000000 in
set_option synthInstance.maxHeartbeats 400000 in
set_option synthInstance.maxSize 2000 in
theorem t_arcs (c : Csr) (u : Int) : Tri Try.prog 44 [.agg [.val (.int .i64 c.N), .val (.int .i64 c.S), .val (.int .i64 c.T), .slc 0 0 c.First.length none, .slc 1 0 c.Head.length none, .slc 2 0 c.Rev.length none, .slc 3 0 c.Cap.length none, .slc 4 0 c.Arc.length none, .slc 5 0 c.Back.length none], .val (.int .i64 u)] [SO.ints false .i64 c.First, SO.ints false .i64 c.Head, SO.ints false .i64 c.Rev, SO.ints false .i64 c.Cap, SO.ints false .i64 c.Arc, SO.bools false c.Back] (fun s H => s = .func 75 [] [.ptr 6 0 0, .ptr 7 0 0] ∧ H = [SO.ints false .i64 c.First, SO.ints false .i64 c.Head, SO.ints false .i64 c.Rev, SO.ints false .i64 c.Cap, SO.ints false .i64 c.Arc, SO.bools false c.Back, .box [.val (.int .i64 c.N), .val (.int .i64 c.S), .val (.int .i64 c.T), .slc 0 0 c.First.length none, .slc 1 0 c.Head.length none, .slc 2 0 c.Rev.length none, .slc 3 0 c.Cap.length none, .slc 4 0 c.Arc.length none, .slc 5 0 c.Back.length none], .box [.val (.int .i64 u)]]) := by
  refine tri_of_w (fn := Try.f44) Try.func44 rfl (by simp [Try.f44]) ?_
  intro ρ w hρ
  refine w_seq ?_
  -- region 0
  refine w_region ?_
  refine rw_t 2 rfl rfl rfl (n_box_agg (n := 6) rfl rfl ?_)
  refine rw_t 3 rfl rfl rfl (n_box (n := 7) rfl rfl rfl ?_)
  refine rw_t 4 rfl rfl rfl (do_assign rfl ?_)
  refine rw_nil ?_
  refine w_seq ?_
  -- region 1
  refine w_region ?_
  refine rw_t 5 rfl rfl rfl (do_makefunc rfl rfl ?_)
  refine rw_t 4 rfl rfl rfl (do_assign rfl ?_)
  refine rw_nil ?_
  refine w_ret ?_
  exact ret_eq (.inl rfl) (.cons (res_tmp rfl) .nil) [0, 1, 2, 3, 4, 5, 6, 7] (rfl) ⟨.inr ⟨_, rfl, .inl rfl⟩, .inr ⟨_, rfl, .inl rfl⟩, .inr ⟨_, rfl, .inl rfl⟩, .inr ⟨_, rfl, .inl rfl⟩, .inr ⟨_, rfl, .inl rfl⟩, .inr ⟨_, rfl, .inl rfl⟩, .inr ⟨_, rfl, .inl rfl⟩, .inr ⟨_, rfl, .inl rfl⟩, trivial⟩ rfl (pre_ok rfl)
-- f11 "acequia/pre.Begin"
set_option maxHeartbeats 8000000 in
set_option synthInstance.maxHeartbeats 400000 in
set_option synthInstance.maxSize 2000 in
theorem t_Begin (c : Csr) (h : CsrT c) (hb : BegIn c) : Tri Try.prog 11 [.agg [.val (.int .i64 c.N), .val (.int .i64 c.S), .val (.int .i64 c.T), .slc 0 0 c.First.length none, .slc 1 0 c.Head.length none, .slc 2 0 c.Rev.length none, .slc 3 0 c.Cap.length none, .slc 4 0 c.Arc.length none, .slc 5 0 c.Back.length none]] [SO.ints false .i64 c.First, SO.ints false .i64 c.Head, SO.ints false .i64 c.Rev, SO.ints false .i64 c.Cap, SO.ints false .i64 c.Arc, SO.bools false c.Back] (fun s H => s = .agg [.slc 6 0 ((begC c).Res.length) none, .slc 7 0 ((begC c).Ex.length) none, .slc 8 0 ((begC c).H.length) none] ∧ H = [SO.ints false .i64 c.First, SO.ints false .i64 c.Head, SO.ints false .i64 c.Rev, SO.ints false .i64 c.Cap, SO.ints false .i64 c.Arc, SO.bools false c.Back, SO.ints true .i64 ((begC c).Res), SO.ints true .i64 ((begC c).Ex), SO.ints true .i64 ((begC c).H)]) := by
  refine tri_of_w (fn := Try.f11) Try.func11 rfl (by simp [Try.f11]) ?_
  intro ρ w hρ
  refine w_seq ?_
  have hn := h.n
  have hf := h.first
  have hhd := h.head
  have hrl := h.rev
  have hcl := h.cap
  have hal := h.arc
  have hbl := h.back
  have hS := h.s
  have hsm := h.small
  have hm := h.mono c.S.toNat (by omega)
  have hmt : (c.S + 1).toNat = c.S.toNat + 1 := by omega
  rw [← hmt] at hm
  -- region 0
  refine w_region ?_
  refine rw_t 1 rfl rfl rfl (n_box_agg (n := 6) rfl rfl ?_)
  refine rw_t 2 rfl rfl rfl (n_alloc (n := 7) rfl ?_)
  refine rw_nil ?_
  refine w_seq ?_
  -- region 1
  refine w_draw mixed [0, 1, 3, 0, 8, 24, 0, 64, 192, 511, 0] [2047] (by kernel_rfl) (by kernel_rfl) rfl rfl rfl (hle hρ rfl) ?_
  refine ra_q (j := 0) rfl rfl rfl rfl (do_fieldaddr rfl ⟨rfl, rfl⟩) (by rfl) ?_
  refine ra_q (j := 1) rfl rfl rfl rfl (do_load_box rfl rfl rfl ⟨rfl, rfl⟩) (by rfl) ?_
  refine ra_n (j := 2) rfl rfl rfl rfl (g_callN (X' := .slc 8 0 c.Cap.length none) (N' := [SO.ints true .i64 c.Cap]) rfl rfl (t_CloneLongs (xs := c.Cap) (by omega)) [3] ⟨.inr ⟨_, rfl, srv⟩, trivial⟩ rfl rfl rfl rfl rfl ⟨rfl, rfl⟩) (by rfl) (by rfl) (by rfl) ?_
  refine ra_q (j := 3) rfl rfl rfl rfl (do_fieldaddr rfl ⟨rfl, rfl⟩) (by rfl) ?_
  refine ra_q (j := 4) rfl rfl rfl rfl (do_load_box rfl rfl rfl ⟨rfl, rfl⟩) (by rfl) ?_
  refine ra_n (j := 5) rfl rfl rfl rfl (g_make (nm := 9) Int (encI .i64) 0 rfl rfl rfl (fun _ => rfl) (fun _ _ h => by simp [encI] at h; subst h; rfl) (by omega) (by omega) (by omega) rfl ⟨rfl, rfl⟩) (by rfl) (by rfl) (by rfl) ?_
  refine ra_q (j := 6) rfl rfl rfl rfl (do_fieldaddr rfl ⟨rfl, rfl⟩) (by rfl) ?_
  refine ra_q (j := 7) rfl rfl rfl rfl (do_load_box rfl rfl rfl ⟨rfl, rfl⟩) (by rfl) ?_
  refine ra_n (j := 8) rfl rfl rfl rfl (g_make (nm := 10) Int (encI .i64) 0 rfl rfl rfl (fun _ => rfl) (fun _ _ h => by simp [encI] at h; subst h; rfl) (by omega) (by omega) (by omega) rfl ⟨rfl, rfl⟩) (by rfl) (by rfl) (by rfl) ?_
  refine ra_q (j := 9) rfl rfl rfl rfl (do_build (out := [_, _, _]) rfl rfl ⟨rfl, rfl⟩) (by rfl) ?_
  refine ra_n (j := 10) rfl rfl rfl rfl (g_alloc (n := 11) rfl ⟨rfl, rfl⟩) (by rfl) (by rfl) (by rfl) ?_
  refine n_done ?_
  refine rw_u rfl rfl (n_store_whole rfl rfl rfl rfl rfl rfl ?_)
  refine rw_nil ?_
  refine w_seq ?_
  -- region 2
  refine w_region ?_
  refine rw_t 15 rfl rfl rfl (do_fieldaddr rfl ?_)
  refine rw_t 16 rfl rfl rfl (do_load_box rfl rfl rfl ?_)
  refine rw_t 17 rfl rfl rfl (do_fieldaddr rfl ?_)
  refine rw_t 18 rfl rfl rfl (do_load_box rfl rfl rfl ?_)
  refine rw_t 19 rfl rfl rfl (do_fieldaddr rfl ?_)
  refine rw_t 20 rfl rfl rfl (do_load_box rfl rfl rfl ?_)
  refine rw_t 21 rfl rfl rfl (do_ix0 rfl rfl rfl (by first | omega | (simp only [ls] <;> omega)) ?_)
  refine rw_u rfl rfl (n_store_arr (z := c.N) rfl rfl rfl (by first | omega | (simp only [ls] <;> omega)) rfl (by decide) rfl ?_)
  refine rw_nil ?_
  refine w_seq ?_
  refine w_seq ?_
  -- region 3
  refine w_region ?_
  refine rw_t 22 rfl rfl rfl (n_load_boxagg [_, _, _, _, _, _, _, _, _] rfl rfl (Nat.le_of_ble_eq_true rfl) rfl ?_)
  refine rw_t 23 rfl rfl rfl (do_fieldaddr rfl ?_)
  refine rw_t 24 rfl rfl rfl (do_load_box rfl rfl rfl ?_)
  refine rw_t 25 rfl rfl rfl (n_callN (X' := .func 75 [] [.ptr 12 0 0, .ptr 13 0 0]) (N' := [.box [.val (.int .i64 c.N), .val (.int .i64 c.S), .val (.int .i64 c.T), .slc 0 0 c.First.length none, .slc 1 0 c.Head.length none, .slc 2 0 c.Rev.length none, .slc 3 0 c.Cap.length none, .slc 4 0 c.Arc.length none, .slc 5 0 c.Back.length none], .box [.val (.int .i64 c.S)]]) rfl rfl (t_arcs (c := c) (u := c.S)) [0, 1, 2, 3, 4, 5] ⟨.inr ⟨_, rfl, srv⟩, .inr ⟨_, rfl, srv⟩, .inr ⟨_, rfl, srv⟩, .inr ⟨_, rfl, srv⟩, .inr ⟨_, rfl, srv⟩, .inr ⟨_, rfl, srv⟩, trivial⟩ rfl rfl rfl rfl rfl ?_)
  refine rw_nil ?_
  refine w_block ?_
  refine n_capB 11 1 rfl rfl ?_
  refine n_capB 11 2 rfl rfl ?_
  refine w_rf [(1, .ptr 6 0 0), (2, .ptr 7 0 0), (3, .ptr 11 0 0)] 14 [.yield 14, .ptr 12 0 0, .ptr 13 0 0] (fun q1 => [SO.ints false .i64 c.First, SO.ints false .i64 c.Head, SO.ints false .i64 c.Rev, SO.ints false .i64 c.Cap, SO.ints false .i64 c.Arc, SO.bools false c.Back, .box [.val (.int .i64 c.N), .val (.int .i64 c.S), .val (.int .i64 c.T), .slc 0 0 c.First.length none, .slc 1 0 c.Head.length none, .slc 2 0 c.Rev.length none, .slc 3 0 c.Cap.length none, .slc 4 0 c.Arc.length none, .slc 5 0 c.Back.length none], .box [.val (.slice none 0 0), .val (.slice none 0 0), .val (.slice none 0 0)], SO.ints true .i64 c.Cap, SO.ints true .i64 (List.replicate c.N.toNat 0), SO.ints true .i64 ((List.replicate c.N.toNat 0).set c.S.toNat c.N), .box [.slc 8 0 c.Cap.length none, .slc 9 0 c.N.toNat none, .slc 10 0 c.N.toNat none], .box [.val (.int .i64 c.N), .val (.int .i64 c.S), .val (.int .i64 c.T), .slc 0 0 c.First.length none, .slc 1 0 c.Head.length none, .slc 2 0 c.Rev.length none, .slc 3 0 c.Cap.length none, .slc 4 0 c.Arc.length none, .slc 5 0 c.Back.length none], .box [.val (.int .i64 c.S)], .gen [.ptr 6 0 0, .ptr 7 0 0, .ptr 11 0 0] (q1 .ready none)]) rfl rfl rfl rfl (fun _ => rfl) ⟨⟨_, rfl, rfl⟩, ⟨_, rfl, rfl⟩, ⟨_, rfl, rfl⟩, trivial⟩ (fun q1 hq1 => ?_)
  refine tri_of_w (fn := Try.f75) Try.func75 rfl (by simp [Try.f75]) ?_
  intro ρr1 wr1 hρ1
  refine w_seq ?_
  -- region 0
  refine w_region ?_
  refine rw_t 5 rfl rfl rfl (do_fieldaddr rfl ?_)
  refine rw_t 6 rfl rfl rfl (do_load_box rfl rfl rfl ?_)
  refine rw_t 7 rfl rfl rfl (do_load_box rfl rfl rfl ?_)
  refine rw_t 8 rfl rfl rfl (do_ix0 rfl rfl rfl (by first | omega | (simp only [ls] <;> omega)) ?_)
  refine rw_t 9 rfl rfl rfl (do_load_arr rfl rfl (by first | omega | (simp only [ls] <;> omega)) rfl ?_)
  refine rw_t 4 rfl rfl rfl (do_assign rfl ?_)
  refine rw_nil ?_
  refine w_block ?_
  refine w_loopS (ι := Nat) (fun i => [(0, .yield 14), (1, .ptr 12 0 0), (2, .ptr 13 0 0), (4, .val (.int .i64 (c.First.getD c.S.toNat 0 + (i : Int))))]) (fun i => [SO.ints false .i64 c.First, SO.ints false .i64 c.Head, SO.ints false .i64 c.Rev, SO.ints false .i64 c.Cap, SO.ints false .i64 c.Arc, SO.bools false c.Back, .box [.val (.int .i64 c.N), .val (.int .i64 c.S), .val (.int .i64 c.T), .slc 0 0 c.First.length none, .slc 1 0 c.Head.length none, .slc 2 0 c.Rev.length none, .slc 3 0 c.Cap.length none, .slc 4 0 c.Arc.length none, .slc 5 0 c.Back.length none], .box [.val (.slice none 0 0), .val (.slice none 0 0), .val (.slice none 0 0)], SO.ints true .i64 ((begK c i).Res), SO.ints true .i64 ((begK c i).Ex), SO.ints true .i64 ((begK c i).H), .box [.slc 8 0 ((begK c i).Res.length) none, .slc 9 0 ((begK c i).Ex.length) none, .slc 10 0 ((begK c i).H.length) none], .box [.val (.int .i64 c.N), .val (.int .i64 c.S), .val (.int .i64 c.T), .slc 0 0 c.First.length none, .slc 1 0 c.Head.length none, .slc 2 0 c.Rev.length none, .slc 3 0 c.Cap.length none, .slc 4 0 c.Arc.length none, .slc 5 0 c.Back.length none], .box [.val (.int .i64 c.S)], .gen [.ptr 6 0 0, .ptr 7 0 0, .ptr 11 0 0] (q1 .ready none)]) (fun i => (c.First.getD (c.S + 1).toNat 0 - c.First.getD c.S.toNat 0).toNat - i) (fun i => i ≤ (c.First.getD (c.S + 1).toNat 0 - c.First.getD c.S.toNat 0).toNat) (0) [0, 1, 2, 3, 4, 5, 6, 7, 8, 9, 10, 11, 12, 13, 14] (by simp) ⟨.inr ⟨_, rfl, .inl rfl⟩, .inr ⟨_, rfl, .inl rfl⟩, .inr ⟨_, rfl, .inl rfl⟩, .inr ⟨_, rfl, .inl rfl⟩, .inr ⟨_, rfl, .inl rfl⟩, .inr ⟨_, rfl, .inl rfl⟩, .inr ⟨_, rfl, .inl rfl⟩, .inr ⟨_, rfl, .inl rfl⟩, .inr ⟨_, rfl, .inl rfl⟩, .inr ⟨_, rfl, .inl rfl⟩, .inr ⟨_, rfl, .inl rfl⟩, .inr ⟨_, rfl, .inl (box_congr (cons_congr (rfl) (cons_congr ((congrArg (fun n => SV.slc 9 0 n none) (begK_len h.toCsrLen 0).ex).trans rfl) (cons_congr ((congrArg (fun n => SV.slc 10 0 n none) (begK_len h.toCsrLen 0).h).trans rfl) ((rfl : ([] : List SV) = []))))))⟩, .inr ⟨_, rfl, .inl rfl⟩, .inr ⟨_, rfl, .inl rfl⟩, .inr ⟨_, rfl, .inl rfl⟩, trivial⟩ rfl (pre_ok rfl) hρ1 ⟨⟨_, rfl, rfl⟩, ⟨_, rfl, rfl⟩, ⟨_, rfl, rfl⟩, ⟨_, rfl, Eq.symm (val_congr (by simp))⟩, trivial⟩ ?_
  intro i hi
  refine w_seq ?_
  refine w_seq ?_
  -- region 1
  refine w_region ?_
  refine rw_t 10 rfl rfl rfl (do_move rfl ?_)
  refine rw_t 11 rfl rfl rfl (do_fieldaddr rfl ?_)
  refine rw_t 12 rfl rfl rfl (do_load_box rfl rfl rfl ?_)
  refine rw_t 13 rfl rfl rfl (do_load_box rfl rfl rfl ?_)
  refine rw_t 14 rfl rfl rfl (do_add rfl rfl (by omega) ?_)
  refine rw_t 15 rfl rfl rfl (do_ix0 rfl rfl rfl (by first | omega | (simp only [ls] <;> omega)) ?_)
  refine rw_t 16 rfl rfl rfl (do_load_arr rfl rfl (by first | omega | (simp only [ls] <;> omega)) rfl ?_)
  refine rw_t 17 rfl rfl rfl (do_bin rfl rfl rfl ?_)
  refine rw_nil ?_
  refine w_cond rfl (fun hc1 => ?_) (fun hc1 => ?_)
  all_goals try simp only [bs] at hc1
  rotate_left
  · refine w_exit ?_ -- exit 0
    refine ret_iter (.inr rfl) rfl (Y := [SO.ints false .i64 c.First, SO.ints false .i64 c.Head, SO.ints false .i64 c.Rev, SO.ints false .i64 c.Cap, SO.ints false .i64 c.Arc, SO.bools false c.Back, .box [.val (.int .i64 c.N), .val (.int .i64 c.S), .val (.int .i64 c.T), .slc 0 0 c.First.length none, .slc 1 0 c.Head.length none, .slc 2 0 c.Rev.length none, .slc 3 0 c.Cap.length none, .slc 4 0 c.Arc.length none, .slc 5 0 c.Back.length none], .box [.val (.slice none 0 0), .val (.slice none 0 0), .val (.slice none 0 0)], SO.ints true .i64 ((begK c i).Res), SO.ints true .i64 ((begK c i).Ex), SO.ints true .i64 ((begK c i).H), .box [.slc 8 0 ((begK c i).Res.length) none, .slc 9 0 ((begK c i).Ex.length) none, .slc 10 0 ((begK c i).H.length) none], .box [.val (.int .i64 c.N), .val (.int .i64 c.S), .val (.int .i64 c.T), .slc 0 0 c.First.length none, .slc 1 0 c.Head.length none, .slc 2 0 c.Rev.length none, .slc 3 0 c.Cap.length none, .slc 4 0 c.Arc.length none, .slc 5 0 c.Back.length none], .box [.val (.int .i64 c.S)], .gen [.ptr 6 0 0, .ptr 7 0 0, .ptr 11 0 0] (q1 .ready none)]) [0, 1, 2, 3, 4, 5, 6, 7, 8, 9, 10, 11, 12, 13, 14] ⟨.inr ⟨_, rfl, .inl rfl⟩, .inr ⟨_, rfl, .inl rfl⟩, .inr ⟨_, rfl, .inl rfl⟩, .inr ⟨_, rfl, .inl rfl⟩, .inr ⟨_, rfl, .inl rfl⟩, .inr ⟨_, rfl, .inl rfl⟩, .inr ⟨_, rfl, .inl rfl⟩, .inr ⟨_, rfl, .inl rfl⟩, .inr ⟨_, rfl, .inl rfl⟩, .inr ⟨_, rfl, .inl rfl⟩, .inr ⟨_, rfl, .inl rfl⟩, .inr ⟨_, rfl, .inl rfl⟩, .inr ⟨_, rfl, .inl rfl⟩, .inr ⟨_, rfl, .inl rfl⟩, .inr ⟨_, rfl, .inl rfl⟩, trivial⟩ rfl (pre_ok rfl) ?_
    refine iter_none rfl ?_
    refine w_seq ?_
    -- region 6
    refine w_region ?_
    refine rw_t 35 rfl rfl rfl (n_load_boxagg [_, _, _] rfl rfl (Nat.le_of_ble_eq_true rfl) rfl ?_)
    refine rw_u rfl rfl (n_store_whole rfl rfl rfl rfl rfl rfl ?_)
    refine rw_nil ?_
    have hi' : i = (c.First.getD (c.S + 1).toNat 0 - c.First.getD c.S.toNat 0).toNat := by omega
    subst hi'
    refine w_ret ?_
    -- RESULT .agg [.slc 8 0 ((begK c i).Res.length) none, .slc 9 0 ((begK c i).Ex.length) none, .slc 10 0 ((begK c i).H.length) none], WANTED .agg [.slc 6 0 ((begC c).Res.length) none, .slc 7 0 ((begC c).Ex.length) none, .slc 8 0 ((begC c).H.length) none]
    exact ret_eq (.inl rfl) (.cons (res_agg rfl rfl (Nat.le_of_ble_eq_true rfl)) .nil) [0, 1, 2, 3, 4, 5, 8, 9, 10] (rfl) ⟨.inr ⟨_, rfl, .inl rfl⟩, .inr ⟨_, rfl, .inl rfl⟩, .inr ⟨_, rfl, .inl rfl⟩, .inr ⟨_, rfl, .inl rfl⟩, .inr ⟨_, rfl, .inl rfl⟩, .inr ⟨_, rfl, .inl rfl⟩, .inr ⟨_, rfl, .inl rfl⟩, .inr ⟨_, rfl, .inl rfl⟩, .inr ⟨_, rfl, .inl rfl⟩, trivial⟩ rfl (pre_ok rfl)
  refine w_skip ?_
  refine w_seq ?_
  refine w_block ?_
  refine w_seq ?_
  -- region 3
  refine w_region ?_
  refine rw_t 20 rfl rfl rfl (do_move rfl ?_)
  refine rw_t 21 rfl rfl rfl (do_move rfl ?_)
  refine rw_t 22 rfl rfl rfl (do_yieldQ [(26, .val (.int .i64 (c.First.getD c.S.toNat 0 + (i : Int)))), (1, .ptr 6 0 0), (2, .ptr 7 0 0), (3, .ptr 11 0 0)] hq1 rfl rfl rfl rfl rfl rfl (fun ρr2 wr2 lr2 hρ2 => ?_))
  -- region 4
  refine w_region ?_
  refine rw_t 4 rfl rfl rfl (do_assign rfl ?_)
  refine rw_nil ?_
  refine asg_done rfl ?_
  refine w_block ?_
  have hl5 := begK_len h.toCsrLen i
  have hl6 := hl5.res
  -- region 5
  refine w_draw mixed [0, 0, 0, 4, 0, 28, 60] [127] (by kernel_rfl) (by kernel_rfl) rfl rfl rfl (hle hρ2 rfl) ?_
  refine ra_q (j := 0) rfl rfl rfl rfl (n_load_boxagg [_, _, _, _, _, _, _, _, _] rfl rfl (Nat.le_of_ble_eq_true rfl) rfl ⟨rfl, rfl⟩) (by rfl) ?_
  refine ra_q (j := 1) rfl rfl rfl rfl (do_move rfl ⟨rfl, rfl⟩) (by rfl) ?_
  refine ra_q (j := 2) rfl rfl rfl rfl (do_fieldaddr rfl ⟨rfl, rfl⟩) (by rfl) ?_
  refine ra_q (j := 3) rfl rfl rfl rfl (do_load_box rfl rfl rfl ⟨rfl, rfl⟩) (by rfl) ?_
  refine ra_q (j := 4) rfl rfl rfl rfl (do_move rfl ⟨rfl, rfl⟩) (by rfl) ?_
  refine ra_q (j := 5) rfl rfl rfl rfl (do_ix0 rfl rfl rfl (by first | omega | (simp only [ls] <;> omega)) ⟨rfl, rfl⟩) (by rfl) ?_
  refine ra_q (j := 6) rfl rfl rfl rfl (do_load_arr rfl rfl (by first | omega | (simp only [ls] <;> omega)) rfl ⟨rfl, rfl⟩) (by rfl) ?_
  refine n_done ?_
  refine rw_t 34 rfl rfl rfl (n_callW (X' := .tup []) (H' := [SO.ints false .i64 c.First, SO.ints false .i64 c.Head, SO.ints false .i64 c.Rev, SO.ints false .i64 c.Cap, SO.ints false .i64 c.Arc, SO.bools false c.Back, .box [.val (.int .i64 c.N), .val (.int .i64 c.S), .val (.int .i64 c.T), .slc 0 0 c.First.length none, .slc 1 0 c.Head.length none, .slc 2 0 c.Rev.length none, .slc 3 0 c.Cap.length none, .slc 4 0 c.Arc.length none, .slc 5 0 c.Back.length none], .box [.val (.slice none 0 0), .val (.slice none 0 0), .val (.slice none 0 0)], SO.ints true .i64 ((moveP c (begK c i) (c.First.getD c.S.toNat 0 + (i : Int)) (((begK c i).Res).getD ((c.First.getD c.S.toNat 0 + (i : Int)).toNat) 0)).Res), SO.ints true .i64 ((moveP c (begK c i) (c.First.getD c.S.toNat 0 + (i : Int)) (((begK c i).Res).getD ((c.First.getD c.S.toNat 0 + (i : Int)).toNat) 0)).Ex), SO.ints true .i64 ((begK c i).H), .box [.slc 8 0 ((begK c i).Res.length) none, .slc 9 0 ((begK c i).Ex.length) none, .slc 10 0 ((begK c i).H.length) none], .box [.val (.int .i64 c.N), .val (.int .i64 c.S), .val (.int .i64 c.T), .slc 0 0 c.First.length none, .slc 1 0 c.Head.length none, .slc 2 0 c.Rev.length none, .slc 3 0 c.Cap.length none, .slc 4 0 c.Arc.length none, .slc 5 0 c.Back.length none], .box [.val (.int .i64 c.S)], .gen [.ptr 6 0 0, .ptr 7 0 0, .ptr 11 0 0] (q1 .busy none)]) rfl rfl (t_move (c := c) (p := (begK c i)) (a := (c.First.getD c.S.toNat 0 + (i : Int))) (d := (((begK c i).Res).getD ((c.First.getD c.S.toNat 0 + (i : Int)).toNat) 0)) (h.toCsrOK) (begK_len h.toCsrLen i) (by omega) (hb i (by omega))) [0, 1, 2, 3, 4, 5, 8, 9, 10, 11] ⟨.inr ⟨_, rfl, srv⟩, .inr ⟨_, rfl, srv⟩, .inr ⟨_, rfl, srv⟩, .inr ⟨_, rfl, srv⟩, .inr ⟨_, rfl, srv⟩, .inr ⟨_, rfl, srv⟩, .inr ⟨_, rfl, .inl rfl⟩, .inr ⟨_, rfl, .inl rfl⟩, .inr ⟨_, rfl, .inl rfl⟩, .inr ⟨_, rfl, .inl rfl⟩, trivial⟩ rfl rfl ⟨fun h => (by cases h), ⟨fun h => (by cases h), ⟨fun h => (by cases h), ⟨fun h => (by cases h), ⟨fun h => (by cases h), ⟨fun h => (by cases h), ⟨fun h => .inl rfl, ⟨fun h => .inl rfl, ⟨fun h => .inl rfl, ⟨fun h => .inl rfl, (fun y hy => by simp at hy)⟩⟩⟩⟩⟩⟩⟩⟩⟩⟩ rfl rfl ?_)
  refine rw_nil ?_
  repeat (with_reducible first | refine bl_n ?_ | refine bl_r ?_ | refine nx_r ?_ | refine nx_e ?_ | refine bl_e rfl ?_)
  refine round_normal rfl ?_
  refine rw_t 23 rfl rfl rfl (do_not rfl ?_)
  refine rw_nil ?_
  refine w_cond rfl (fun hc2 => ?_) (fun hc2 => ?_)
  · exfalso; first | (cases hc2; done) | exact (hc2 trivial) | (try simp only [bs] at hc2; first | omega | (simp_all; done) | (simp_all; omega))
  refine w_skip ?_
  -- region 2
  refine w_region ?_
  refine rw_t 18 rfl rfl rfl (do_move rfl ?_)
  refine rw_t 19 rfl rfl rfl (do_add rfl rfl (by omega) ?_)
  refine rw_t 4 rfl rfl rfl (do_assign rfl ?_)
  refine rw_nil ?_
  refine ⟨i + 1, [0, 1, 2, 3, 4, 5, 6, 7, 8, 9, 10, 11, 12, 13, 14], by dsimp only; omega, by omega, ⟨.inr ⟨_, rfl, .inl rfl⟩, .inr ⟨_, rfl, .inl rfl⟩, .inr ⟨_, rfl, .inl rfl⟩, .inr ⟨_, rfl, .inl rfl⟩, .inr ⟨_, rfl, .inl rfl⟩, .inr ⟨_, rfl, .inl rfl⟩, .inr ⟨_, rfl, .inl rfl⟩, .inr ⟨_, rfl, .inl rfl⟩, .inr ⟨_, rfl, .inl rfl⟩, .inr ⟨_, rfl, .inl rfl⟩, .inr ⟨_, rfl, .inl rfl⟩, .inr ⟨_, rfl, .inl (box_congr (cons_congr (congrArg (fun n => SV.slc 8 0 n none) (moveP_len c (begK c i) _ _).1) (cons_congr (congrArg (fun n => SV.slc 9 0 n none) (moveP_len c (begK c i) _ _).2.1) (cons_congr (congrArg (fun n => SV.slc 10 0 n none) (moveP_len c (begK c i) _ _).2.2) ((rfl : ([] : List SV) = []))))))⟩, .inr ⟨_, rfl, .inl rfl⟩, .inr ⟨_, rfl, .inl rfl⟩, .inr ⟨_, rfl, .inl rfl⟩, trivial⟩, rfl, pre_ok rfl, ⟨⟨_, rfl, rfl⟩, ⟨_, rfl, rfl⟩, ⟨_, rfl, rfl⟩, ⟨_, rfl, Eq.symm (val_congr (by omega))⟩, trivial⟩⟩
end Go.Proofs

set_option linter.unusedVariables false
set_option linter.unusedSimpArgs false
namespace Go.Proofs
open Go Go.Sx Go.RowKit
def manyOf (c : Csr) (u : Int) : Nat := (c.First.getD (u + 1).toNat 0 - c.First.getD u.toNat 0).toNat
/-- P7.1: who is active. -/
def activeP (c : Csr) (p : Pre) (u : Int) : Prop := (u ≠ c.S ∧ u ≠ c.T) ∧ p.Ex.getD u.toNat 0 > 0
instance (c : Csr) (p : Pre) (u : Int) : Decidable (activeP c p u) := by unfold activeP; infer_instance
def admP (c : Csr) (p : Pre) (u a : Int) : Prop := p.Res.getD a.toNat 0 > 0 ∧ p.H.getD u.toNat 0 = p.H.getD (c.Head.getD a.toNat 0).toNat 0 + 1
instance (c : Csr) (p : Pre) (u a : Int) : Decidable (admP c p u a) := by unfold admP; infer_instance
def stuckP (c : Csr) (p : Pre) (u : Int) : Prop := (∀ j : Nat, j < manyOf c u → ¬ admP c p u (c.First.getD u.toNat 0 + j)) ∧ activeP c p u
instance (c : Csr) (p : Pre) (u : Int) : Decidable (stuckP c p u) := by unfold stuckP; infer_instance
structure PreIn (c : Csr) (p : Pre) : Prop extends PreLen c p where
  hi : ∀ v, 0 ≤ p.H.getD v 0 ∧ p.H.getD v 0 ≤ 8192
-- f51 "acequia/pre.active"
set_option maxHeartbeats 8000000 in
set_option synthInstance.maxHeartbeats 400000 in
set_option synthInstance.maxSize 2000 in
theorem t_active (c : Csr) (p : Pre) (h : CsrT c) (hp : PreIn c p) (u : Int) (hu : 0 ≤ u ∧ u < c.N) : Tri Try.prog 51 [.agg [.val (.int .i64 c.N), .val (.int .i64 c.S), .val (.int .i64 c.T), .slc 0 0 c.First.length none, .slc 1 0 c.Head.length none, .slc 2 0 c.Rev.length none, .slc 3 0 c.Cap.length none, .slc 4 0 c.Arc.length none, .slc 5 0 c.Back.length none], .agg [.slc 6 0 p.Res.length none, .slc 7 0 p.Ex.length none, .slc 8 0 p.H.length none], .val (.int .i64 u)] [SO.ints false .i64 c.First, SO.ints false .i64 c.Head, SO.ints false .i64 c.Rev, SO.ints false .i64 c.Cap, SO.ints false .i64 c.Arc, SO.bools false c.Back, SO.ints false .i64 p.Res, SO.ints false .i64 p.Ex, SO.ints false .i64 p.H] (fun s H => s = .val (.bool (decide (activeP c p u))) ∧ H = [SO.ints false .i64 c.First, SO.ints false .i64 c.Head, SO.ints false .i64 c.Rev, SO.ints false .i64 c.Cap, SO.ints false .i64 c.Arc, SO.bools false c.Back, SO.ints false .i64 p.Res, SO.ints false .i64 p.Ex, SO.ints false .i64 p.H]) := by
  refine tri_of_w (fn := Try.f51) Try.func51 rfl (by simp [Try.f51]) ?_
  intro ρ w hρ
  refine w_seq ?_
  have hn := h.n
  have hf := h.first
  have hhd := h.head
  have hrl := h.rev
  have hcl := h.cap
  have hal := h.arc
  have hbl := h.back
  have hr := hp.res
  have hx := hp.ex
  have hh := hp.h
  -- region 0
  refine w_region ?_
  refine rw_t 3 rfl rfl rfl (n_box_agg (n := 9) rfl rfl ?_)
  refine rw_t 4 rfl rfl rfl (n_box_agg (n := 10) rfl rfl ?_)
  refine rw_t 6 rfl rfl rfl (do_assign rfl ?_)
  refine rw_nil ?_
  refine w_env [(2, .val (.int .i64 u)), (3, .ptr 9 0 0), (4, .ptr 10 0 0)] ⟨⟨_, rfl, rfl⟩, ⟨_, rfl, rfl⟩, ⟨_, rfl, rfl⟩, trivial⟩ ?_
  refine w_seqB 6 (((u ≠ c.S ∧ u ≠ c.T) ∧ (p.Ex.getD u.toNat 0) > 0)) ?_ ?_
  · -- region 1
    refine w_region ?_
    refine rw_t 7 rfl rfl rfl (do_move rfl ?_)
    refine rw_t 8 rfl rfl rfl (do_fieldaddr rfl ?_)
    refine rw_t 9 rfl rfl rfl (do_load_box rfl rfl rfl ?_)
    refine rw_t 10 rfl rfl rfl (do_bin rfl rfl rfl ?_)
    refine rw_t 11 rfl rfl rfl (do_move rfl ?_)
    refine rw_case 11 rfl (fun g1 => ?_) (fun g1 => ?_)
    · have kg1 := g1
      try simp only [bs] at kg1
      refine rw_gt 12 4 11 true rfl rfl rfl rfl rfl rfl g1 (do_move rfl ?_)
      refine rw_gt 13 4 11 true rfl rfl rfl rfl rfl rfl g1 (do_fieldaddr rfl ?_)
      refine rw_gt 14 4 11 true rfl rfl rfl rfl rfl rfl g1 (do_load_box rfl rfl rfl ?_)
      refine rw_gt 15 4 11 true rfl rfl rfl rfl rfl rfl g1 (do_bin rfl rfl rfl ?_)
      refine rw_t 16 rfl rfl rfl (do_pick_t rfl g1 rfl ?_)
      refine rw_t 17 rfl rfl rfl (do_move rfl ?_)
      refine rw_case 17 rfl (fun g2 => ?_) (fun g2 => ?_)
      · have kg2 := g2
        try simp only [bs] at kg2
        refine rw_gt 18 10 17 true rfl rfl rfl rfl rfl rfl g2 (do_fieldaddr rfl ?_)
        refine rw_gt 19 10 17 true rfl rfl rfl rfl rfl rfl g2 (do_load_box rfl rfl rfl ?_)
        refine rw_gt 20 10 17 true rfl rfl rfl rfl rfl rfl g2 (do_move rfl ?_)
        refine rw_gt 21 10 17 true rfl rfl rfl rfl rfl rfl g2 (do_ix0 rfl rfl rfl (by first | omega | (simp only [ls] <;> omega)) ?_)
        refine rw_gt 22 10 17 true rfl rfl rfl rfl rfl rfl g2 (do_load_arr rfl rfl (by first | omega | (simp only [ls] <;> omega)) rfl ?_)
        refine rw_gt 23 10 17 true rfl rfl rfl rfl rfl rfl g2 (do_bin rfl rfl rfl ?_)
        refine rw_t 24 rfl rfl rfl (do_pick_t rfl g2 rfl ?_)
        refine rw_t 6 rfl rfl rfl (do_assign rfl ?_)
        refine rw_nil ?_
        refine ⟨rfl, ⟨_, rfl, by first | (simp; done) | (simp only [bs]; omega) | (simp [*]; done) | (simp; omega) | (constructor <;> intro h <;> simp_all <;> omega)⟩, ?_⟩
        repeat (refine ⟨⟨_, rfl, rfl⟩, ?_⟩)
        exact trivial
      · have kg2 := g2
        try simp only [bs] at kg2
        refine rw_gf 18 10 17 true rfl rfl rfl rfl rfl rfl (by rw [g2]; decide) ?_
        refine rw_gf 19 10 17 true rfl rfl rfl rfl rfl rfl (by rw [g2]; decide) ?_
        refine rw_gf 20 10 17 true rfl rfl rfl rfl rfl rfl (by rw [g2]; decide) ?_
        refine rw_gf 21 10 17 true rfl rfl rfl rfl rfl rfl (by rw [g2]; decide) ?_
        refine rw_gf 22 10 17 true rfl rfl rfl rfl rfl rfl (by rw [g2]; decide) ?_
        refine rw_gf 23 10 17 true rfl rfl rfl rfl rfl rfl (by rw [g2]; decide) ?_
        refine rw_t 24 rfl rfl rfl (do_pick_f rfl g2 rfl ?_)
        refine rw_t 6 rfl rfl rfl (do_assign rfl ?_)
        refine rw_nil ?_
        refine ⟨rfl, ⟨_, rfl, by first | (simp; done) | (simp only [bs]; omega) | (simp [*]; done) | (simp; omega) | (constructor <;> intro h <;> simp_all <;> omega)⟩, ?_⟩
        repeat (refine ⟨⟨_, rfl, rfl⟩, ?_⟩)
        exact trivial
    · have kg1 := g1
      try simp only [bs] at kg1
      refine rw_gf 12 4 11 true rfl rfl rfl rfl rfl rfl (by rw [g1]; decide) ?_
      refine rw_gf 13 4 11 true rfl rfl rfl rfl rfl rfl (by rw [g1]; decide) ?_
      refine rw_gf 14 4 11 true rfl rfl rfl rfl rfl rfl (by rw [g1]; decide) ?_
      refine rw_gf 15 4 11 true rfl rfl rfl rfl rfl rfl (by rw [g1]; decide) ?_
      refine rw_t 16 rfl rfl rfl (do_pick_f rfl g1 rfl ?_)
      refine rw_t 17 rfl rfl rfl (do_move rfl ?_)
      refine rw_gf 18 10 17 true rfl rfl rfl rfl rfl rfl (by decide) ?_
      refine rw_gf 19 10 17 true rfl rfl rfl rfl rfl rfl (by decide) ?_
      refine rw_gf 20 10 17 true rfl rfl rfl rfl rfl rfl (by decide) ?_
      refine rw_gf 21 10 17 true rfl rfl rfl rfl rfl rfl (by decide) ?_
      refine rw_gf 22 10 17 true rfl rfl rfl rfl rfl rfl (by decide) ?_
      refine rw_gf 23 10 17 true rfl rfl rfl rfl rfl rfl (by decide) ?_
      refine rw_t 24 rfl rfl rfl (do_pick_f rfl rfl rfl ?_)
      refine rw_t 6 rfl rfl rfl (do_assign rfl ?_)
      refine rw_nil ?_
      refine ⟨rfl, ⟨_, rfl, by first | (simp; done) | (simp only [bs]; omega) | (simp [*]; done) | (simp; omega) | (constructor <;> intro h <;> simp_all <;> omega)⟩, ?_⟩
      repeat (refine ⟨⟨_, rfl, rfl⟩, ?_⟩)
      exact trivial
  intro b1 hb1
  refine w_ret ?_
  exact ret_eq (.inl rfl) (.cons (res_tmp rfl) .nil) [0, 1, 2, 3, 4, 5, 6, 7, 8] (Eq.symm (bool_congr (dec_of hb1 Iff.rfl))) ⟨.inr ⟨_, rfl, .inl rfl⟩, .inr ⟨_, rfl, .inl rfl⟩, .inr ⟨_, rfl, .inl rfl⟩, .inr ⟨_, rfl, .inl rfl⟩, .inr ⟨_, rfl, .inl rfl⟩, .inr ⟨_, rfl, .inl rfl⟩, .inr ⟨_, rfl, .inl rfl⟩, .inr ⟨_, rfl, .inl rfl⟩, .inr ⟨_, rfl, .inl rfl⟩, trivial⟩ rfl (pre_ok rfl)
-- f52 "acequia/pre.admissible"
set_option maxHeartbeats 8000000 in
set_option synthInstance.maxHeartbeats 400000 in
set_option synthInstance.maxSize 2000 in
theorem t_adm (c : Csr) (p : Pre) (h : CsrT c) (hp : PreIn c p) (u : Int) (hu : 0 ≤ u ∧ u < c.N) (a : Int) (ha : 0 ≤ a ∧ a < c.Head.length) : Tri Try.prog 52 [.agg [.val (.int .i64 c.N), .val (.int .i64 c.S), .val (.int .i64 c.T), .slc 0 0 c.First.length none, .slc 1 0 c.Head.length none, .slc 2 0 c.Rev.length none, .slc 3 0 c.Cap.length none, .slc 4 0 c.Arc.length none, .slc 5 0 c.Back.length none], .agg [.slc 6 0 p.Res.length none, .slc 7 0 p.Ex.length none, .slc 8 0 p.H.length none], .val (.int .i64 u), .val (.int .i64 a)] [SO.ints false .i64 c.First, SO.ints false .i64 c.Head, SO.ints false .i64 c.Rev, SO.ints false .i64 c.Cap, SO.ints false .i64 c.Arc, SO.bools false c.Back, SO.ints false .i64 p.Res, SO.ints false .i64 p.Ex, SO.ints false .i64 p.H] (fun s H => s = .val (.bool (decide (admP c p u a))) ∧ H = [SO.ints false .i64 c.First, SO.ints false .i64 c.Head, SO.ints false .i64 c.Rev, SO.ints false .i64 c.Cap, SO.ints false .i64 c.Arc, SO.bools false c.Back, SO.ints false .i64 p.Res, SO.ints false .i64 p.Ex, SO.ints false .i64 p.H]) := by
  refine tri_of_w (fn := Try.f52) Try.func52 rfl (by simp [Try.f52]) ?_
  intro ρ w hρ
  refine w_seq ?_
  have hn := h.n
  have hf := h.first
  have hhd := h.head
  have hrl := h.rev
  have hcl := h.cap
  have hal := h.arc
  have hbl := h.back
  have hr := hp.res
  have hx := hp.ex
  have hh := hp.h
  have hd1 := h.hd a.toNat (by omega)
  have hy1 := hp.hi (c.Head.getD a.toNat 0).toNat
  -- region 0
  refine w_region ?_
  refine rw_t 4 rfl rfl rfl (n_box_agg (n := 9) rfl rfl ?_)
  refine rw_t 5 rfl rfl rfl (n_box_agg (n := 10) rfl rfl ?_)
  refine rw_t 8 rfl rfl rfl (do_assign rfl ?_)
  refine rw_nil ?_
  refine w_env [(2, .val (.int .i64 u)), (3, .val (.int .i64 a)), (4, .ptr 9 0 0), (5, .ptr 10 0 0)] ⟨⟨_, rfl, rfl⟩, ⟨_, rfl, rfl⟩, ⟨_, rfl, rfl⟩, ⟨_, rfl, rfl⟩, trivial⟩ ?_
  refine w_seqB 8 (((p.Res.getD a.toNat 0) > 0 ∧ (p.H.getD u.toNat 0) = ((p.H.getD ((c.Head.getD a.toNat 0).toNat) 0) + 1))) ?_ ?_
  · -- region 1
    refine w_draw mixed [0, 1, 0, 7, 15, 31, 63, 127, 255, 127, 1023, 2047, 127, 4223, 127, 16511, 127, 114815, 245887, 520319, 1044607, 2093183] [4194303, 8388607, 16777215] (by kernel_rfl) (by kernel_rfl) rfl rfl rfl (hle hρ rfl) ?_
    refine ra_q (j := 0) rfl rfl rfl rfl (do_fieldaddr rfl ⟨rfl, rfl⟩) (by rfl) ?_
    refine ra_q (j := 1) rfl rfl rfl rfl (do_load_box rfl rfl rfl ⟨rfl, rfl⟩) (by rfl) ?_
    refine ra_q (j := 2) rfl rfl rfl rfl (do_move rfl ⟨rfl, rfl⟩) (by rfl) ?_
    refine ra_q (j := 3) rfl rfl rfl rfl (do_ix0 rfl rfl rfl (by first | omega | (simp only [ls] <;> omega)) ⟨rfl, rfl⟩) (by rfl) ?_
    refine ra_q (j := 4) rfl rfl rfl rfl (do_load_arr rfl rfl (by first | omega | (simp only [ls] <;> omega)) rfl ⟨rfl, rfl⟩) (by rfl) ?_
    refine ra_q (j := 5) rfl rfl rfl rfl (do_bin rfl rfl rfl ⟨rfl, rfl⟩) (by rfl) ?_
    refine ra_q (j := 6) rfl rfl rfl rfl (do_move rfl ⟨rfl, rfl⟩) (by rfl) ?_
    refine ra_case 15 rfl (fun g1 => ?_) (fun g1 => ?_)
    · have kg1 := g1
      try simp only [bs] at kg1
      refine ra_gt (j := 7) rfl rfl rfl rfl g1 rfl rfl rfl (do_fieldaddr rfl ⟨rfl, rfl⟩) (by rfl) ?_
      refine ra_gt (j := 8) rfl rfl rfl rfl g1 rfl rfl rfl (do_load_box rfl rfl rfl ⟨rfl, rfl⟩) (by rfl) ?_
      refine ra_gt (j := 9) rfl rfl rfl rfl g1 rfl rfl rfl (do_move rfl ⟨rfl, rfl⟩) (by rfl) ?_
      refine ra_gt (j := 10) rfl rfl rfl rfl g1 rfl rfl rfl (do_ix0 rfl rfl rfl (by first | omega | (simp only [ls] <;> omega)) ⟨rfl, rfl⟩) (by rfl) ?_
      refine ra_gt (j := 11) rfl rfl rfl rfl g1 rfl rfl rfl (do_load_arr rfl rfl (by first | omega | (simp only [ls] <;> omega)) rfl ⟨rfl, rfl⟩) (by rfl) ?_
      refine ra_gt (j := 12) rfl rfl rfl rfl g1 rfl rfl rfl (do_fieldaddr rfl ⟨rfl, rfl⟩) (by rfl) ?_
      refine ra_gt (j := 13) rfl rfl rfl rfl g1 rfl rfl rfl (do_load_box rfl rfl rfl ⟨rfl, rfl⟩) (by rfl) ?_
      refine ra_gt (j := 14) rfl rfl rfl rfl g1 rfl rfl rfl (do_fieldaddr rfl ⟨rfl, rfl⟩) (by rfl) ?_
      refine ra_gt (j := 15) rfl rfl rfl rfl g1 rfl rfl rfl (do_load_box rfl rfl rfl ⟨rfl, rfl⟩) (by rfl) ?_
      refine ra_gt (j := 16) rfl rfl rfl rfl g1 rfl rfl rfl (do_move rfl ⟨rfl, rfl⟩) (by rfl) ?_
      refine ra_gt (j := 17) rfl rfl rfl rfl g1 rfl rfl rfl (do_ix0 rfl rfl rfl (by first | omega | (simp only [ls] <;> omega)) ⟨rfl, rfl⟩) (by rfl) ?_
      refine ra_gt (j := 18) rfl rfl rfl rfl g1 rfl rfl rfl (do_load_arr rfl rfl (by first | omega | (simp only [ls] <;> omega)) rfl ⟨rfl, rfl⟩) (by rfl) ?_
      refine ra_gt (j := 19) rfl rfl rfl rfl g1 rfl rfl rfl (do_ix0 rfl rfl rfl (by first | omega | (simp only [ls] <;> omega)) ⟨rfl, rfl⟩) (by rfl) ?_
      refine ra_gt (j := 20) rfl rfl rfl rfl g1 rfl rfl rfl (do_load_arr rfl rfl (by first | omega | (simp only [ls] <;> omega)) rfl ⟨rfl, rfl⟩) (by rfl) ?_
      refine ra_gt (j := 21) rfl rfl rfl rfl g1 rfl rfl rfl (do_add rfl rfl (by omega) ⟨rfl, rfl⟩) (by rfl) ?_
      refine n_done ?_
      refine rw_gt 31 6 15 true rfl rfl rfl rfl rfl rfl g1 (do_bin rfl rfl rfl ?_)
      refine rw_t 32 rfl rfl rfl (do_pick_t rfl g1 rfl ?_)
      refine rw_t 8 rfl rfl rfl (do_assign rfl ?_)
      refine rw_nil ?_
      refine ⟨rfl, ⟨_, rfl, by first | (simp; done) | (simp only [bs]; omega) | (simp [*]; done) | (simp; omega) | (constructor <;> intro h <;> simp_all <;> omega)⟩, ?_⟩
      repeat (refine ⟨⟨_, rfl, rfl⟩, ?_⟩)
      exact trivial
    · have kg1 := g1
      try simp only [bs] at kg1
      refine ra_gf (j := 7) rfl rfl rfl rfl (by rw [g1]; decide) rfl rfl rfl ?_
      refine ra_gf (j := 8) rfl rfl rfl rfl (by rw [g1]; decide) rfl rfl rfl ?_
      refine ra_gf (j := 9) rfl rfl rfl rfl (by rw [g1]; decide) rfl rfl rfl ?_
      refine ra_gf (j := 10) rfl rfl rfl rfl (by rw [g1]; decide) rfl rfl rfl ?_
      refine ra_gf (j := 11) rfl rfl rfl rfl (by rw [g1]; decide) rfl rfl rfl ?_
      refine ra_gf (j := 12) rfl rfl rfl rfl (by rw [g1]; decide) rfl rfl rfl ?_
      refine ra_gf (j := 13) rfl rfl rfl rfl (by rw [g1]; decide) rfl rfl rfl ?_
      refine ra_gf (j := 14) rfl rfl rfl rfl (by rw [g1]; decide) rfl rfl rfl ?_
      refine ra_gf (j := 15) rfl rfl rfl rfl (by rw [g1]; decide) rfl rfl rfl ?_
      refine ra_gf (j := 16) rfl rfl rfl rfl (by rw [g1]; decide) rfl rfl rfl ?_
      refine ra_gf (j := 17) rfl rfl rfl rfl (by rw [g1]; decide) rfl rfl rfl ?_
      refine ra_gf (j := 18) rfl rfl rfl rfl (by rw [g1]; decide) rfl rfl rfl ?_
      refine ra_gf (j := 19) rfl rfl rfl rfl (by rw [g1]; decide) rfl rfl rfl ?_
      refine ra_gf (j := 20) rfl rfl rfl rfl (by rw [g1]; decide) rfl rfl rfl ?_
      refine ra_gf (j := 21) rfl rfl rfl rfl (by rw [g1]; decide) rfl rfl rfl ?_
      refine n_done ?_
      refine rw_gf 31 6 15 true rfl rfl rfl rfl rfl rfl (by rw [g1]; decide) ?_
      refine rw_t 32 rfl rfl rfl (do_pick_f rfl g1 rfl ?_)
      refine rw_t 8 rfl rfl rfl (do_assign rfl ?_)
      refine rw_nil ?_
      refine ⟨rfl, ⟨_, rfl, by first | (simp; done) | (simp only [bs]; omega) | (simp [*]; done) | (simp; omega) | (constructor <;> intro h <;> simp_all <;> omega)⟩, ?_⟩
      repeat (refine ⟨⟨_, rfl, rfl⟩, ?_⟩)
      exact trivial
  intro b1 hb1
  refine w_ret ?_
  exact ret_eq (.inl rfl) (.cons (res_tmp rfl) .nil) [0, 1, 2, 3, 4, 5, 6, 7, 8] (Eq.symm (bool_congr (dec_of hb1 Iff.rfl))) ⟨.inr ⟨_, rfl, .inl rfl⟩, .inr ⟨_, rfl, .inl rfl⟩, .inr ⟨_, rfl, .inl rfl⟩, .inr ⟨_, rfl, .inl rfl⟩, .inr ⟨_, rfl, .inl rfl⟩, .inr ⟨_, rfl, .inl rfl⟩, .inr ⟨_, rfl, .inl rfl⟩, .inr ⟨_, rfl, .inl rfl⟩, .inr ⟨_, rfl, .inl rfl⟩, trivial⟩ rfl (pre_ok rfl)
-- f55 "acequia/pre.stuck"
set_option maxHeartbeats 8000000 in
set_option synthInstance.maxHeartbeats 400000 in
set_option synthInstance.maxSize 2000 in
theorem t_stuck (c : Csr) (p : Pre) (h : CsrT c) (hp : PreIn c p) (u : Int) (hu : 0 ≤ u ∧ u < c.N) : Tri Try.prog 55 [.agg [.val (.int .i64 c.N), .val (.int .i64 c.S), .val (.int .i64 c.T), .slc 0 0 c.First.length none, .slc 1 0 c.Head.length none, .slc 2 0 c.Rev.length none, .slc 3 0 c.Cap.length none, .slc 4 0 c.Arc.length none, .slc 5 0 c.Back.length none], .agg [.slc 6 0 p.Res.length none, .slc 7 0 p.Ex.length none, .slc 8 0 p.H.length none], .val (.int .i64 u)] [SO.ints false .i64 c.First, SO.ints false .i64 c.Head, SO.ints false .i64 c.Rev, SO.ints false .i64 c.Cap, SO.ints false .i64 c.Arc, SO.bools false c.Back, SO.ints false .i64 p.Res, SO.ints false .i64 p.Ex, SO.ints false .i64 p.H] (fun s H => s = .val (.bool (decide (stuckP c p u))) ∧ H = [SO.ints false .i64 c.First, SO.ints false .i64 c.Head, SO.ints false .i64 c.Rev, SO.ints false .i64 c.Cap, SO.ints false .i64 c.Arc, SO.bools false c.Back, SO.ints false .i64 p.Res, SO.ints false .i64 p.Ex, SO.ints false .i64 p.H]) := by
  refine tri_of_w (fn := Try.f55) Try.func55 rfl (by simp [Try.f55]) ?_
  intro ρ w hρ
  refine w_seq ?_
  have hn := h.n
  have hf := h.first
  have hhd := h.head
  have hrl := h.rev
  have hcl := h.cap
  have hal := h.arc
  have hbl := h.back
  have hr := hp.res
  have hx := hp.ex
  have hh := hp.h
  have hm := h.mono u.toNat (by omega)
  have hmt : (u + 1).toNat = u.toNat + 1 := by omega
  rw [← hmt] at hm
  have hmo : manyOf c u = (c.First.getD (u + 1).toNat 0 - c.First.getD u.toNat 0).toNat := rfl
  have hsm := h.small
  -- region 0
  refine w_region ?_
  refine rw_t 3 rfl rfl rfl (n_box_agg (n := 9) rfl rfl ?_)
  refine rw_t 4 rfl rfl rfl (n_box_agg (n := 10) rfl rfl ?_)
  refine rw_t 5 rfl rfl rfl (n_box (n := 11) rfl rfl rfl ?_)
  refine rw_t 6 rfl rfl rfl (n_alloc (n := 12) rfl ?_)
  refine rw_nil ?_
  refine w_seq ?_
  refine w_seq ?_
  -- region 1
  refine w_region ?_
  refine rw_t 8 rfl rfl rfl (n_load_boxagg [_, _, _, _, _, _, _, _, _] rfl rfl (Nat.le_of_ble_eq_true rfl) rfl ?_)
  refine rw_t 9 rfl rfl rfl (do_load_box rfl rfl rfl ?_)
  refine rw_t 10 rfl rfl rfl (n_callN (X' := .func 75 [] [.ptr 13 0 0, .ptr 14 0 0]) (N' := [.box [.val (.int .i64 c.N), .val (.int .i64 c.S), .val (.int .i64 c.T), .slc 0 0 c.First.length none, .slc 1 0 c.Head.length none, .slc 2 0 c.Rev.length none, .slc 3 0 c.Cap.length none, .slc 4 0 c.Arc.length none, .slc 5 0 c.Back.length none], .box [.val (.int .i64 u)]]) rfl rfl (t_arcs (c := c) (u := u)) [0, 1, 2, 3, 4, 5] ⟨.inr ⟨_, rfl, srv⟩, .inr ⟨_, rfl, srv⟩, .inr ⟨_, rfl, srv⟩, .inr ⟨_, rfl, srv⟩, .inr ⟨_, rfl, srv⟩, .inr ⟨_, rfl, srv⟩, trivial⟩ rfl rfl rfl rfl rfl ?_)
  refine rw_nil ?_
  refine w_block ?_
  refine w_rf [(3, .ptr 9 0 0), (4, .ptr 10 0 0), (5, .ptr 11 0 0), (6, .ptr 12 0 0)] 15 [.yield 15, .ptr 13 0 0, .ptr 14 0 0] (fun q1 => [SO.ints false .i64 c.First, SO.ints false .i64 c.Head, SO.ints false .i64 c.Rev, SO.ints false .i64 c.Cap, SO.ints false .i64 c.Arc, SO.bools false c.Back, SO.ints false .i64 p.Res, SO.ints false .i64 p.Ex, SO.ints false .i64 p.H, .box [.val (.int .i64 c.N), .val (.int .i64 c.S), .val (.int .i64 c.T), .slc 0 0 c.First.length none, .slc 1 0 c.Head.length none, .slc 2 0 c.Rev.length none, .slc 3 0 c.Cap.length none, .slc 4 0 c.Arc.length none, .slc 5 0 c.Back.length none], .box [.slc 6 0 p.Res.length none, .slc 7 0 p.Ex.length none, .slc 8 0 p.H.length none], .box [.val (.int .i64 u)], .box [.val (.bool false)], .box [.val (.int .i64 c.N), .val (.int .i64 c.S), .val (.int .i64 c.T), .slc 0 0 c.First.length none, .slc 1 0 c.Head.length none, .slc 2 0 c.Rev.length none, .slc 3 0 c.Cap.length none, .slc 4 0 c.Arc.length none, .slc 5 0 c.Back.length none], .box [.val (.int .i64 u)], .gen [.ptr 9 0 0, .ptr 10 0 0, .ptr 11 0 0, .ptr 12 0 0] (q1 .ready none)]) rfl rfl rfl rfl (fun _ => rfl) ⟨⟨_, rfl, rfl⟩, ⟨_, rfl, rfl⟩, ⟨_, rfl, rfl⟩, ⟨_, rfl, rfl⟩, trivial⟩ (fun q1 hq1 => ?_)
  refine tri_of_w (fn := Try.f75) Try.func75 rfl (by simp [Try.f75]) ?_
  intro ρr1 wr1 hρ1
  refine w_seq ?_
  -- region 0
  refine w_region ?_
  refine rw_t 5 rfl rfl rfl (do_fieldaddr rfl ?_)
  refine rw_t 6 rfl rfl rfl (do_load_box rfl rfl rfl ?_)
  refine rw_t 7 rfl rfl rfl (do_load_box rfl rfl rfl ?_)
  refine rw_t 8 rfl rfl rfl (do_ix0 rfl rfl rfl (by first | omega | (simp only [ls] <;> omega)) ?_)
  refine rw_t 9 rfl rfl rfl (do_load_arr rfl rfl (by first | omega | (simp only [ls] <;> omega)) rfl ?_)
  refine rw_t 4 rfl rfl rfl (do_assign rfl ?_)
  refine rw_nil ?_
  refine w_block ?_
  refine w_loopS (ι := Nat) (fun i => [(0, .yield 15), (1, .ptr 13 0 0), (2, .ptr 14 0 0), (4, .val (.int .i64 (c.First.getD u.toNat 0 + (i : Int))))]) (fun i => [SO.ints false .i64 c.First, SO.ints false .i64 c.Head, SO.ints false .i64 c.Rev, SO.ints false .i64 c.Cap, SO.ints false .i64 c.Arc, SO.bools false c.Back, SO.ints false .i64 p.Res, SO.ints false .i64 p.Ex, SO.ints false .i64 p.H, .box [.val (.int .i64 c.N), .val (.int .i64 c.S), .val (.int .i64 c.T), .slc 0 0 c.First.length none, .slc 1 0 c.Head.length none, .slc 2 0 c.Rev.length none, .slc 3 0 c.Cap.length none, .slc 4 0 c.Arc.length none, .slc 5 0 c.Back.length none], .box [.slc 6 0 p.Res.length none, .slc 7 0 p.Ex.length none, .slc 8 0 p.H.length none], .box [.val (.int .i64 u)], .box [.val (.bool false)], .box [.val (.int .i64 c.N), .val (.int .i64 c.S), .val (.int .i64 c.T), .slc 0 0 c.First.length none, .slc 1 0 c.Head.length none, .slc 2 0 c.Rev.length none, .slc 3 0 c.Cap.length none, .slc 4 0 c.Arc.length none, .slc 5 0 c.Back.length none], .box [.val (.int .i64 u)], .gen [.ptr 9 0 0, .ptr 10 0 0, .ptr 11 0 0, .ptr 12 0 0] (q1 .ready none)]) (fun i => manyOf c u - i) (fun i => i ≤ manyOf c u ∧ ∀ j : Nat, j < i → ¬ admP c p u (c.First.getD u.toNat 0 + j)) (0) [0, 1, 2, 3, 4, 5, 6, 7, 8, 9, 10, 11, 12, 13, 14, 15] (⟨by simp, fun j hj => by omega⟩) ⟨.inr ⟨_, rfl, .inl rfl⟩, .inr ⟨_, rfl, .inl rfl⟩, .inr ⟨_, rfl, .inl rfl⟩, .inr ⟨_, rfl, .inl rfl⟩, .inr ⟨_, rfl, .inl rfl⟩, .inr ⟨_, rfl, .inl rfl⟩, .inr ⟨_, rfl, .inl rfl⟩, .inr ⟨_, rfl, .inl rfl⟩, .inr ⟨_, rfl, .inl rfl⟩, .inr ⟨_, rfl, .inl rfl⟩, .inr ⟨_, rfl, .inl rfl⟩, .inr ⟨_, rfl, .inl rfl⟩, .inr ⟨_, rfl, .inl rfl⟩, .inr ⟨_, rfl, .inl rfl⟩, .inr ⟨_, rfl, .inl rfl⟩, .inr ⟨_, rfl, .inl rfl⟩, trivial⟩ rfl (pre_ok rfl) hρ1 ⟨⟨_, rfl, rfl⟩, ⟨_, rfl, rfl⟩, ⟨_, rfl, rfl⟩, ⟨_, rfl, Eq.symm (val_congr (by simp))⟩, trivial⟩ ?_
  rintro i ⟨g1, g2⟩
  refine w_seq ?_
  refine w_seq ?_
  -- region 1
  refine w_region ?_
  refine rw_t 10 rfl rfl rfl (do_move rfl ?_)
  refine rw_t 11 rfl rfl rfl (do_fieldaddr rfl ?_)
  refine rw_t 12 rfl rfl rfl (do_load_box rfl rfl rfl ?_)
  refine rw_t 13 rfl rfl rfl (do_load_box rfl rfl rfl ?_)
  refine rw_t 14 rfl rfl rfl (do_add rfl rfl (by omega) ?_)
  refine rw_t 15 rfl rfl rfl (do_ix0 rfl rfl rfl (by first | omega | (simp only [ls] <;> omega)) ?_)
  refine rw_t 16 rfl rfl rfl (do_load_arr rfl rfl (by first | omega | (simp only [ls] <;> omega)) rfl ?_)
  refine rw_t 17 rfl rfl rfl (do_bin rfl rfl rfl ?_)
  refine rw_nil ?_
  refine w_cond rfl (fun hc1 => ?_) (fun hc1 => ?_)
  all_goals try simp only [bs] at hc1
  rotate_left
  · refine w_exit ?_ -- exit 0
    refine ret_iter (.inr rfl) rfl (Y := [SO.ints false .i64 c.First, SO.ints false .i64 c.Head, SO.ints false .i64 c.Rev, SO.ints false .i64 c.Cap, SO.ints false .i64 c.Arc, SO.bools false c.Back, SO.ints false .i64 p.Res, SO.ints false .i64 p.Ex, SO.ints false .i64 p.H, .box [.val (.int .i64 c.N), .val (.int .i64 c.S), .val (.int .i64 c.T), .slc 0 0 c.First.length none, .slc 1 0 c.Head.length none, .slc 2 0 c.Rev.length none, .slc 3 0 c.Cap.length none, .slc 4 0 c.Arc.length none, .slc 5 0 c.Back.length none], .box [.slc 6 0 p.Res.length none, .slc 7 0 p.Ex.length none, .slc 8 0 p.H.length none], .box [.val (.int .i64 u)], .box [.val (.bool false)], .box [.val (.int .i64 c.N), .val (.int .i64 c.S), .val (.int .i64 c.T), .slc 0 0 c.First.length none, .slc 1 0 c.Head.length none, .slc 2 0 c.Rev.length none, .slc 3 0 c.Cap.length none, .slc 4 0 c.Arc.length none, .slc 5 0 c.Back.length none], .box [.val (.int .i64 u)], .gen [.ptr 9 0 0, .ptr 10 0 0, .ptr 11 0 0, .ptr 12 0 0] (q1 .ready none)]) [0, 1, 2, 3, 4, 5, 6, 7, 8, 9, 10, 11, 12, 13, 14, 15] ⟨.inr ⟨_, rfl, .inl rfl⟩, .inr ⟨_, rfl, .inl rfl⟩, .inr ⟨_, rfl, .inl rfl⟩, .inr ⟨_, rfl, .inl rfl⟩, .inr ⟨_, rfl, .inl rfl⟩, .inr ⟨_, rfl, .inl rfl⟩, .inr ⟨_, rfl, .inl rfl⟩, .inr ⟨_, rfl, .inl rfl⟩, .inr ⟨_, rfl, .inl rfl⟩, .inr ⟨_, rfl, .inl rfl⟩, .inr ⟨_, rfl, .inl rfl⟩, .inr ⟨_, rfl, .inl rfl⟩, .inr ⟨_, rfl, .inl rfl⟩, .inr ⟨_, rfl, .inl rfl⟩, .inr ⟨_, rfl, .inl rfl⟩, .inr ⟨_, rfl, .inl rfl⟩, trivial⟩ rfl (pre_ok rfl) ?_
    refine iter_none rfl ?_
    refine w_seq ?_
    -- region 5
    refine w_region ?_
    refine rw_t 17 rfl rfl rfl (n_load_boxagg [_, _, _, _, _, _, _, _, _] rfl rfl (Nat.le_of_ble_eq_true rfl) rfl ?_)
    refine rw_t 18 rfl rfl rfl (n_load_boxagg [_, _, _] rfl rfl (Nat.le_of_ble_eq_true rfl) rfl ?_)
    refine rw_t 19 rfl rfl rfl (do_load_box rfl rfl rfl ?_)
    refine rw_t 20 rfl rfl rfl (do_callR (X' := .val (.bool (decide (activeP c p u)))) rfl rfl (t_active (c := c) (p := p) (u := u) (h) (hp) (hu)) [0, 1, 2, 3, 4, 5, 6, 7, 8] ⟨.inr ⟨_, rfl, srv⟩, .inr ⟨_, rfl, srv⟩, .inr ⟨_, rfl, srv⟩, .inr ⟨_, rfl, srv⟩, .inr ⟨_, rfl, srv⟩, .inr ⟨_, rfl, srv⟩, .inr ⟨_, rfl, srv⟩, .inr ⟨_, rfl, srv⟩, .inr ⟨_, rfl, srv⟩, trivial⟩ rfl rfl rfl ?_)
    refine rw_u rfl rfl (n_store_box (f := 0) rfl rfl rfl (Nat.le_of_ble_eq_true rfl) rfl ?_)
    refine rw_nil ?_
    refine w_ret ?_
    exact ret_eq (.inl rfl) (.cons (res_one rfl rfl rfl) .nil) [0, 1, 2, 3, 4, 5, 6, 7, 8] (Eq.symm (bool_congr (decide_eq_decide.2 ⟨fun q => q.2, fun q => ⟨fun j hj => g2 j (by omega), q⟩⟩))) ⟨.inr ⟨_, rfl, .inl rfl⟩, .inr ⟨_, rfl, .inl rfl⟩, .inr ⟨_, rfl, .inl rfl⟩, .inr ⟨_, rfl, .inl rfl⟩, .inr ⟨_, rfl, .inl rfl⟩, .inr ⟨_, rfl, .inl rfl⟩, .inr ⟨_, rfl, .inl rfl⟩, .inr ⟨_, rfl, .inl rfl⟩, .inr ⟨_, rfl, .inl rfl⟩, trivial⟩ rfl (pre_ok rfl)
  refine w_skip ?_
  refine w_seq ?_
  refine w_block ?_
  refine w_seq ?_
  -- region 3
  refine w_region ?_
  refine rw_t 20 rfl rfl rfl (do_move rfl ?_)
  refine rw_t 21 rfl rfl rfl (do_move rfl ?_)
  refine rw_t 22 rfl rfl rfl (do_yieldQ [(11, .val (.int .i64 (c.First.getD u.toNat 0 + (i : Int)))), (3, .ptr 9 0 0), (4, .ptr 10 0 0), (5, .ptr 11 0 0), (6, .ptr 12 0 0)] hq1 rfl rfl rfl rfl rfl rfl (fun ρr2 wr2 lr2 hρ2 => ?_))
  -- region 2
  refine w_region ?_
  refine rw_t 7 rfl rfl rfl (do_assign rfl ?_)
  refine rw_nil ?_
  refine asg_done rfl ?_
  refine w_block ?_
  refine w_seq ?_
  -- region 3
  refine w_region ?_
  refine rw_t 12 rfl rfl rfl (n_load_boxagg [_, _, _, _, _, _, _, _, _] rfl rfl (Nat.le_of_ble_eq_true rfl) rfl ?_)
  refine rw_t 13 rfl rfl rfl (n_load_boxagg [_, _, _] rfl rfl (Nat.le_of_ble_eq_true rfl) rfl ?_)
  refine rw_t 14 rfl rfl rfl (do_load_box rfl rfl rfl ?_)
  refine rw_t 15 rfl rfl rfl (do_move rfl ?_)
  refine rw_t 16 rfl rfl rfl (do_callR (X' := .val (.bool (decide (admP c p u (c.First.getD u.toNat 0 + (i : Int)))))) rfl rfl (t_adm (c := c) (p := p) (u := u) (a := (c.First.getD u.toNat 0 + (i : Int))) (h) (hp) (hu) (by omega)) [0, 1, 2, 3, 4, 5, 6, 7, 8] ⟨.inr ⟨_, rfl, srv⟩, .inr ⟨_, rfl, srv⟩, .inr ⟨_, rfl, srv⟩, .inr ⟨_, rfl, srv⟩, .inr ⟨_, rfl, srv⟩, .inr ⟨_, rfl, srv⟩, .inr ⟨_, rfl, srv⟩, .inr ⟨_, rfl, srv⟩, .inr ⟨_, rfl, srv⟩, trivial⟩ rfl rfl rfl ?_)
  refine rw_nil ?_
  refine w_cond rfl (fun hc2 => ?_) (fun hc2 => ?_)
  all_goals try simp only [bs] at hc2
  · refine w_seq ?_
    -- region 4
    refine w_region ?_
    refine rw_u rfl rfl (n_store_box (f := 0) rfl rfl rfl (Nat.le_of_ble_eq_true rfl) rfl ?_)
    refine rw_nil ?_
    refine w_ret ?_
    repeat (with_reducible first | refine bl_n ?_ | refine bl_r ?_ | refine nx_r ?_ | refine nx_e ?_ | refine bl_e rfl ?_)
    refine round_ret rfl ?_
    refine rw_t 23 rfl rfl rfl (do_not rfl ?_)
    refine rw_nil ?_
    refine w_cond rfl (fun hc3 => ?_) (fun hc3 => ?_)
    rotate_left
    · exfalso; first | (cases hc3; done) | exact (hc3 trivial) | (try simp only [bs] at hc3; first | omega | (simp_all; done) | (simp_all; omega))
    refine w_ret ?_
    refine ret_iter (.inl rfl) rfl (Y := [SO.ints false .i64 c.First, SO.ints false .i64 c.Head, SO.ints false .i64 c.Rev, SO.ints false .i64 c.Cap, SO.ints false .i64 c.Arc, SO.bools false c.Back, SO.ints false .i64 p.Res, SO.ints false .i64 p.Ex, SO.ints false .i64 p.H, .box [.val (.int .i64 c.N), .val (.int .i64 c.S), .val (.int .i64 c.T), .slc 0 0 c.First.length none, .slc 1 0 c.Head.length none, .slc 2 0 c.Rev.length none, .slc 3 0 c.Cap.length none, .slc 4 0 c.Arc.length none, .slc 5 0 c.Back.length none], .box [.slc 6 0 p.Res.length none, .slc 7 0 p.Ex.length none, .slc 8 0 p.H.length none], .box [.val (.int .i64 u)], .box [.val (.bool false)], .box [.val (.int .i64 c.N), .val (.int .i64 c.S), .val (.int .i64 c.T), .slc 0 0 c.First.length none, .slc 1 0 c.Head.length none, .slc 2 0 c.Rev.length none, .slc 3 0 c.Cap.length none, .slc 4 0 c.Arc.length none, .slc 5 0 c.Back.length none], .box [.val (.int .i64 u)], .gen [.ptr 9 0 0, .ptr 10 0 0, .ptr 11 0 0, .ptr 12 0 0] (q1 .done (some .ret))]) [0, 1, 2, 3, 4, 5, 6, 7, 8, 9, 10, 11, 12, 13, 14, 15] ⟨.inr ⟨_, rfl, .inl rfl⟩, .inr ⟨_, rfl, .inl rfl⟩, .inr ⟨_, rfl, .inl rfl⟩, .inr ⟨_, rfl, .inl rfl⟩, .inr ⟨_, rfl, .inl rfl⟩, .inr ⟨_, rfl, .inl rfl⟩, .inr ⟨_, rfl, .inl rfl⟩, .inr ⟨_, rfl, .inl rfl⟩, .inr ⟨_, rfl, .inl rfl⟩, .inr ⟨_, rfl, .inl rfl⟩, .inr ⟨_, rfl, .inl rfl⟩, .inr ⟨_, rfl, .inl rfl⟩, .inr ⟨_, rfl, .inl rfl⟩, .inr ⟨_, rfl, .inl rfl⟩, .inr ⟨_, rfl, .inl rfl⟩, .inr ⟨_, rfl, .inl rfl⟩, trivial⟩ rfl (pre_ok rfl) ?_
    refine iter_ret rfl ?_
    exact ret_eq (.inl rfl) (.cons (res_one rfl rfl rfl) .nil) [0, 1, 2, 3, 4, 5, 6, 7, 8] (Eq.symm (bool_congr (decide_eq_false (fun q => q.1 i (by omega) hc2)))) ⟨.inr ⟨_, rfl, .inl rfl⟩, .inr ⟨_, rfl, .inl rfl⟩, .inr ⟨_, rfl, .inl rfl⟩, .inr ⟨_, rfl, .inl rfl⟩, .inr ⟨_, rfl, .inl rfl⟩, .inr ⟨_, rfl, .inl rfl⟩, .inr ⟨_, rfl, .inl rfl⟩, .inr ⟨_, rfl, .inl rfl⟩, .inr ⟨_, rfl, .inl rfl⟩, trivial⟩ rfl (pre_ok rfl)
  refine w_skip ?_
  repeat (with_reducible first | refine bl_n ?_ | refine bl_r ?_ | refine nx_r ?_ | refine nx_e ?_ | refine bl_e rfl ?_)
  refine round_normal rfl ?_
  refine rw_t 23 rfl rfl rfl (do_not rfl ?_)
  refine rw_nil ?_
  refine w_cond rfl (fun hc4 => ?_) (fun hc4 => ?_)
  · exfalso; first | (cases hc4; done) | exact (hc4 trivial) | (try simp only [bs] at hc4; first | omega | (simp_all; done) | (simp_all; omega))
  refine w_skip ?_
  -- region 2
  refine w_region ?_
  refine rw_t 18 rfl rfl rfl (do_move rfl ?_)
  refine rw_t 19 rfl rfl rfl (do_add rfl rfl (by omega) ?_)
  refine rw_t 4 rfl rfl rfl (do_assign rfl ?_)
  refine rw_nil ?_
  refine ⟨i + 1, [0, 1, 2, 3, 4, 5, 6, 7, 8, 9, 10, 11, 12, 13, 14, 15], by dsimp only; omega, ⟨by omega, fun j hj => by rcases Nat.lt_or_ge j i with q | q; exact g2 j q; have : j = i := (by omega); subst this; exact hc2⟩, ⟨.inr ⟨_, rfl, .inl rfl⟩, .inr ⟨_, rfl, .inl rfl⟩, .inr ⟨_, rfl, .inl rfl⟩, .inr ⟨_, rfl, .inl rfl⟩, .inr ⟨_, rfl, .inl rfl⟩, .inr ⟨_, rfl, .inl rfl⟩, .inr ⟨_, rfl, .inl rfl⟩, .inr ⟨_, rfl, .inl rfl⟩, .inr ⟨_, rfl, .inl rfl⟩, .inr ⟨_, rfl, .inl rfl⟩, .inr ⟨_, rfl, .inl rfl⟩, .inr ⟨_, rfl, .inl rfl⟩, .inr ⟨_, rfl, .inl rfl⟩, .inr ⟨_, rfl, .inl rfl⟩, .inr ⟨_, rfl, .inl rfl⟩, .inr ⟨_, rfl, .inl rfl⟩, trivial⟩, rfl, pre_ok rfl, ⟨⟨_, rfl, rfl⟩, ⟨_, rfl, rfl⟩, ⟨_, rfl, rfl⟩, ⟨_, rfl, Eq.symm (val_congr (by omega))⟩, trivial⟩⟩
end Go.Proofs

set_option linter.unusedVariables false
set_option linter.unusedSimpArgs false
namespace Go.Proofs
open Go Go.Sx Go.RowKit
def Pre.none : Pre := ⟨[], [], []⟩
def pushD (c : Csr) (p : Pre) (a : Int) : Int := if p.Res.getD a.toNat 0 < p.Ex.getD (tailOf c a).toNat 0 then p.Res.getD a.toNat 0 else p.Ex.getD (tailOf c a).toNat 0
def pushesP (c : Csr) (p : Pre) (a : Int) : Prop := activeP c p (tailOf c a) ∧ admP c p (tailOf c a) a
instance (c : Csr) (p : Pre) (a : Int) : Decidable (pushesP c p a) := by unfold pushesP; infer_instance
/-- P7.2. -/
def pushR (c : Csr) (p : Pre) (a : Int) : Pre × Int × Int :=
  if 0 ≤ a ∧ a < c.Head.length then (if pushesP c p a then (moveP c p a (pushD c p a), pushD c p a, 0) else (Pre.none, 0, 30)) else (Pre.none, 0, 2)
/-- What is moved stays within. -/
def PushIn (c : Csr) (p : Pre) : Prop := ∀ a : Int, 0 ≤ a ∧ a < c.Head.length → pushesP c p a → MoveIn c p a (pushD c p a)
def selK (q : Int → Bool) : Nat → List Int
  | 0 => []
  | k + 1 => if q k = true then selK q k ++ [(k : Int)] else selK q k
theorem selK_len (q : Int → Bool) : ∀ k, (selK q k).length ≤ k
  | 0 => by simp [selK]
  | k + 1 => by
    have := selK_len q k
    unfold selK
    split
    · simp only [List.length_append, List.length_singleton]; omega
    · omega
-- f31 "acequia/csr.Tail"
set_option maxHeartbeats 8000000 in
set_option synthInstance.maxHeartbeats 400000 in
set_option synthInstance.maxSize 2000 in
theorem t_TailN (c : Csr) (a : Int) (h : CsrT c) (ha : ¬ (0 ≤ a ∧ a < c.Head.length)) : Tri Try.prog 31 [.agg [.val (.int .i64 c.N), .val (.int .i64 c.S), .val (.int .i64 c.T), .slc 0 0 c.First.length none, .slc 1 0 c.Head.length none, .slc 2 0 c.Rev.length none, .slc 3 0 c.Cap.length none, .slc 4 0 c.Arc.length none, .slc 5 0 c.Back.length none], .val (.int .i64 a)] [SO.ints false .i64 c.First, SO.ints false .i64 c.Head, SO.ints false .i64 c.Rev, SO.ints false .i64 c.Cap, SO.ints false .i64 c.Arc, SO.bools false c.Back] (fun s H => s = .tup [.val (.int .i64 0), .val (.bool false)] ∧ H = [SO.ints false .i64 c.First, SO.ints false .i64 c.Head, SO.ints false .i64 c.Rev, SO.ints false .i64 c.Cap, SO.ints false .i64 c.Arc, SO.bools false c.Back]) := by
  refine tri_of_w (fn := Try.f31) Try.func31 rfl (by simp [Try.f31]) ?_
  intro ρ w hρ
  refine w_seq ?_
  -- region 0
  refine w_region ?_
  refine rw_t 2 rfl rfl rfl (n_box_agg (n := 6) rfl rfl ?_)
  refine rw_t 4 rfl rfl rfl (do_assign rfl ?_)
  refine rw_t 5 rfl rfl rfl (do_assign rfl ?_)
  refine rw_nil ?_
  refine w_seq ?_
  have hn := h.n
  have hf := h.first
  have hhd := h.head
  have hrl := h.rev
  have hcl := h.cap
  have hal := h.arc
  have hbl := h.back
  refine w_seqB 13 ((a < 0 ∨ a ≥ ((c.Head.length : Nat) : Int))) ?_ ?_
  · -- region 1
    refine w_region ?_
    refine rw_t 6 rfl rfl rfl (do_move rfl ?_)
    refine rw_t 7 rfl rfl rfl (do_bin rfl rfl rfl ?_)
    refine rw_t 8 rfl rfl rfl (do_move rfl ?_)
    refine rw_case 8 rfl (fun g1 => ?_) (fun g1 => ?_)
    · have kg1 := g1
      try simp only [bs] at kg1
      refine rw_gf 9 2 8 false rfl rfl rfl rfl rfl rfl (by rw [g1]; decide) ?_
      refine rw_gf 10 2 8 false rfl rfl rfl rfl rfl rfl (by rw [g1]; decide) ?_
      refine rw_gf 11 2 8 false rfl rfl rfl rfl rfl rfl (by rw [g1]; decide) ?_
      refine rw_gf 12 2 8 false rfl rfl rfl rfl rfl rfl (by rw [g1]; decide) ?_
      refine rw_t 13 rfl rfl rfl (do_pick_t rfl g1 rfl ?_)
      refine rw_nil ?_
      refine ⟨rfl, ⟨_, rfl, by first | (simp; done) | (simp only [bs]; omega) | (simp [*]; done) | (simp; omega) | (constructor <;> intro h <;> simp_all <;> omega)⟩, ?_⟩
      repeat (refine ⟨⟨_, rfl, rfl⟩, ?_⟩)
      exact trivial
    · have kg1 := g1
      try simp only [bs] at kg1
      refine rw_gt 9 2 8 false rfl rfl rfl rfl rfl rfl g1 (do_move rfl ?_)
      refine rw_gt 10 2 8 false rfl rfl rfl rfl rfl rfl g1 (n_load_boxagg [_, _, _, _, _, _, _, _, _] rfl rfl (Nat.le_of_ble_eq_true rfl) rfl ?_)
      refine rw_gt 11 2 8 false rfl rfl rfl rfl rfl rfl g1 (do_callR (X' := .val (.int .i64 ((c.Head.length : Nat) : Int))) rfl rfl (t_Len (c := c)) [0, 1, 2, 3, 4, 5] ⟨.inr ⟨_, rfl, srv⟩, .inr ⟨_, rfl, srv⟩, .inr ⟨_, rfl, srv⟩, .inr ⟨_, rfl, srv⟩, .inr ⟨_, rfl, srv⟩, .inr ⟨_, rfl, srv⟩, trivial⟩ rfl rfl rfl ?_)
      refine rw_gt 12 2 8 false rfl rfl rfl rfl rfl rfl g1 (do_bin rfl rfl rfl ?_)
      refine rw_t 13 rfl rfl rfl (do_pick_f rfl g1 rfl ?_)
      refine rw_nil ?_
      refine ⟨rfl, ⟨_, rfl, by first | (simp; done) | (simp only [bs]; omega) | (simp [*]; done) | (simp; omega) | (constructor <;> intro h <;> simp_all <;> omega)⟩, ?_⟩
      repeat (refine ⟨⟨_, rfl, rfl⟩, ?_⟩)
      exact trivial
  intro b1 hb1
  refine w_condP hb1 rfl (fun hc1 => ?_) (fun hc1 => ?_)
  rotate_left
  · exfalso; omega
  refine w_seq ?_
  -- region 2
  refine w_region ?_
  refine rw_t 4 rfl rfl rfl (do_assign rfl ?_)
  refine rw_t 5 rfl rfl rfl (do_assign rfl ?_)
  refine rw_nil ?_
  refine w_ret ?_
  exact ret_eq (.inl rfl) (.cons (res_tmp rfl) (.cons (res_tmp rfl) .nil)) [0, 1, 2, 3, 4, 5] (rfl) ⟨.inr ⟨_, rfl, .inl rfl⟩, .inr ⟨_, rfl, .inl rfl⟩, .inr ⟨_, rfl, .inl rfl⟩, .inr ⟨_, rfl, .inl rfl⟩, .inr ⟨_, rfl, .inl rfl⟩, .inr ⟨_, rfl, .inl rfl⟩, trivial⟩ rfl (pre_ok rfl)
-- f22 "acequia/pre.Push"
set_option maxHeartbeats 8000000 in
set_option synthInstance.maxHeartbeats 400000 in
set_option synthInstance.maxSize 2000 in
theorem t_Push (c : Csr) (p : Pre) (h : CsrT c) (hp : PreIn c p) (hm : PushIn c p) (a : Int) : Tri Try.prog 22 [.agg [.val (.int .i64 c.N), .val (.int .i64 c.S), .val (.int .i64 c.T), .slc 0 0 c.First.length none, .slc 1 0 c.Head.length none, .slc 2 0 c.Rev.length none, .slc 3 0 c.Cap.length none, .slc 4 0 c.Arc.length none, .slc 5 0 c.Back.length none], .agg [.slc 6 0 p.Res.length none, .slc 7 0 p.Ex.length none, .slc 8 0 p.H.length none], .val (.int .i64 a)] [SO.ints false .i64 c.First, SO.ints false .i64 c.Head, SO.ints false .i64 c.Rev, SO.ints false .i64 c.Cap, SO.ints false .i64 c.Arc, SO.bools false c.Back, SO.ints false .i64 p.Res, SO.ints false .i64 p.Ex, SO.ints false .i64 p.H] (fun s H => s = .tup [.agg [.slc 9 0 ((pushR c p a).1.Res.length) none, .slc 10 0 ((pushR c p a).1.Ex.length) none, .slc 11 0 ((pushR c p a).1.H.length) none], .val (.int .i64 ((pushR c p a).2.1)), .val (.int .i64 ((pushR c p a).2.2))] ∧ H = [SO.ints false .i64 c.First, SO.ints false .i64 c.Head, SO.ints false .i64 c.Rev, SO.ints false .i64 c.Cap, SO.ints false .i64 c.Arc, SO.bools false c.Back, SO.ints false .i64 p.Res, SO.ints false .i64 p.Ex, SO.ints false .i64 p.H, SO.ints true .i64 ((pushR c p a).1.Res), SO.ints true .i64 ((pushR c p a).1.Ex), SO.ints true .i64 ((pushR c p a).1.H)]) := by
  refine tri_of_w (fn := Try.f22) Try.func22 rfl (by simp [Try.f22]) ?_
  intro ρ w hρ
  refine w_seq ?_
  have hn := h.n
  have hf := h.first
  have hhd := h.head
  have hrl := h.rev
  have hcl := h.cap
  have hal := h.arc
  have hbl := h.back
  have hr := hp.res
  have hx := hp.ex
  have hh := hp.h
  have hsm := h.small
  -- region 0
  refine w_region ?_
  refine rw_t 3 rfl rfl rfl (n_box_agg (n := 9) rfl rfl ?_)
  refine rw_t 4 rfl rfl rfl (n_box_agg (n := 10) rfl rfl ?_)
  refine rw_t 6 rfl rfl rfl (n_alloc (n := 11) rfl ?_)
  refine rw_t 7 rfl rfl rfl (do_assign rfl ?_)
  refine rw_t 8 rfl rfl rfl (do_assign rfl ?_)
  refine rw_nil ?_
  refine w_seq ?_
  by_cases ha : 0 ≤ a ∧ a < c.Head.length
  · obtain ⟨tv, ht1, ht2, ht3, ht4⟩ := h.tail_at ha.1 ha.2
    have hu : 0 ≤ tailOf c a ∧ tailOf c a < c.N := by omega
    -- region 1
    refine w_region ?_
    refine rw_t 14 rfl rfl rfl (n_load_boxagg [_, _, _, _, _, _, _, _, _] rfl rfl (Nat.le_of_ble_eq_true rfl) rfl ?_)
    refine rw_t 15 rfl rfl rfl (do_move rfl ?_)
    refine rw_t 16 rfl rfl rfl (do_callR (X' := .tup [.val (.int .i64 (tailOf c a)), .val (.bool true)]) rfl rfl (t_Tail (c := c) (a := a) (h) (ha)) [0, 1, 2, 3, 4, 5] ⟨.inr ⟨_, rfl, srv⟩, .inr ⟨_, rfl, srv⟩, .inr ⟨_, rfl, srv⟩, .inr ⟨_, rfl, srv⟩, .inr ⟨_, rfl, srv⟩, .inr ⟨_, rfl, srv⟩, trivial⟩ rfl rfl rfl ?_)
    refine rw_t 13 rfl rfl rfl (do_move rfl ?_)
    refine rw_t 17 rfl rfl rfl (do_extract rfl rfl ?_)
    refine rw_t 18 rfl rfl rfl (do_extract rfl rfl ?_)
    refine rw_t 9 rfl rfl rfl (do_assign rfl ?_)
    refine rw_t 10 rfl rfl rfl (do_assign rfl ?_)
    refine rw_nil ?_
    refine w_seq ?_
    refine w_block ?_
    refine w_seq ?_
    -- region 2
    refine w_region ?_
    refine rw_t 20 rfl rfl rfl (do_move rfl ?_)
    refine rw_t 21 rfl rfl rfl (do_not rfl ?_)
    refine rw_t 19 rfl rfl rfl (do_assign rfl ?_)
    refine rw_nil ?_
    refine w_cond rfl (fun hc1 => ?_) (fun hc1 => ?_)
    · exfalso; first | (cases hc1; done) | exact (hc1 trivial) | (try simp only [bs] at hc1; first | omega | (simp_all; done) | (simp_all; omega))
    refine w_seqB 23 ((¬ (activeP c p (tailOf c a)) ∨ ¬ (admP c p (tailOf c a) a))) ?_ ?_
    · -- region 4
      refine w_region ?_
      refine rw_t 24 rfl rfl rfl (n_load_boxagg [_, _, _, _, _, _, _, _, _] rfl rfl (Nat.le_of_ble_eq_true rfl) rfl ?_)
      refine rw_t 25 rfl rfl rfl (n_load_boxagg [_, _, _] rfl rfl (Nat.le_of_ble_eq_true rfl) rfl ?_)
      refine rw_t 26 rfl rfl rfl (do_move rfl ?_)
      refine rw_t 27 rfl rfl rfl (do_callR (X' := .val (.bool (decide (activeP c p (tailOf c a))))) rfl rfl (t_active (c := c) (p := p) (u := tailOf c a) (h) (hp) (hu)) [0, 1, 2, 3, 4, 5, 6, 7, 8] ⟨.inr ⟨_, rfl, srv⟩, .inr ⟨_, rfl, srv⟩, .inr ⟨_, rfl, srv⟩, .inr ⟨_, rfl, srv⟩, .inr ⟨_, rfl, srv⟩, .inr ⟨_, rfl, srv⟩, .inr ⟨_, rfl, srv⟩, .inr ⟨_, rfl, srv⟩, .inr ⟨_, rfl, srv⟩, trivial⟩ rfl rfl rfl ?_)
      refine rw_t 28 rfl rfl rfl (do_not rfl ?_)
      refine rw_t 29 rfl rfl rfl (do_move rfl ?_)
      refine rw_case 29 rfl (fun g1 => ?_) (fun g1 => ?_)
      · have kg1 := g1
        try simp only [bs] at kg1
        refine rw_gf 30 5 29 false rfl rfl rfl rfl rfl rfl (by rw [g1]; decide) ?_
        refine rw_gf 31 5 29 false rfl rfl rfl rfl rfl rfl (by rw [g1]; decide) ?_
        refine rw_gf 32 5 29 false rfl rfl rfl rfl rfl rfl (by rw [g1]; decide) ?_
        refine rw_gf 33 5 29 false rfl rfl rfl rfl rfl rfl (by rw [g1]; decide) ?_
        refine rw_gf 34 5 29 false rfl rfl rfl rfl rfl rfl (by rw [g1]; decide) ?_
        refine rw_gf 35 5 29 false rfl rfl rfl rfl rfl rfl (by rw [g1]; decide) ?_
        refine rw_t 36 rfl rfl rfl (do_pick_t rfl g1 rfl ?_)
        refine rw_t 23 rfl rfl rfl (do_assign rfl ?_)
        refine rw_nil ?_
        refine ⟨rfl, ⟨_, rfl, by first | (simp; done) | (simp only [bs]; omega) | (simp [*]; done) | (simp; omega) | (constructor <;> intro h <;> simp_all <;> omega)⟩, ?_⟩
        repeat (refine ⟨⟨_, rfl, rfl⟩, ?_⟩)
        exact trivial
      · have kg1 := g1
        try simp only [bs] at kg1
        refine rw_gt 30 5 29 false rfl rfl rfl rfl rfl rfl g1 (n_load_boxagg [_, _, _, _, _, _, _, _, _] rfl rfl (Nat.le_of_ble_eq_true rfl) rfl ?_)
        refine rw_gt 31 5 29 false rfl rfl rfl rfl rfl rfl g1 (n_load_boxagg [_, _, _] rfl rfl (Nat.le_of_ble_eq_true rfl) rfl ?_)
        refine rw_gt 32 5 29 false rfl rfl rfl rfl rfl rfl g1 (do_move rfl ?_)
        refine rw_gt 33 5 29 false rfl rfl rfl rfl rfl rfl g1 (do_move rfl ?_)
        refine rw_gt 34 5 29 false rfl rfl rfl rfl rfl rfl g1 (do_callR (X' := .val (.bool (decide (admP c p (tailOf c a) a)))) rfl rfl (t_adm (c := c) (p := p) (u := tailOf c a) (a := a) (h) (hp) (hu) (ha)) [0, 1, 2, 3, 4, 5, 6, 7, 8] ⟨.inr ⟨_, rfl, srv⟩, .inr ⟨_, rfl, srv⟩, .inr ⟨_, rfl, srv⟩, .inr ⟨_, rfl, srv⟩, .inr ⟨_, rfl, srv⟩, .inr ⟨_, rfl, srv⟩, .inr ⟨_, rfl, srv⟩, .inr ⟨_, rfl, srv⟩, .inr ⟨_, rfl, srv⟩, trivial⟩ rfl rfl rfl ?_)
        refine rw_gt 35 5 29 false rfl rfl rfl rfl rfl rfl g1 (do_not rfl ?_)
        refine rw_t 36 rfl rfl rfl (do_pick_f rfl g1 rfl ?_)
        refine rw_t 23 rfl rfl rfl (do_assign rfl ?_)
        refine rw_nil ?_
        refine ⟨rfl, ⟨_, rfl, by first | (simp; done) | (simp only [bs]; omega) | (simp [*]; done) | (simp; omega) | (constructor <;> intro h <;> simp_all <;> omega)⟩, ?_⟩
        repeat (refine ⟨⟨_, rfl, rfl⟩, ?_⟩)
        exact trivial
    intro b1 hb1
    refine w_condP hb1 rfl (fun hc2 => ?_) (fun hc2 => ?_)
    · refine w_seq ?_
      -- region 5
      refine w_region ?_
      refine rw_t 37 rfl rfl rfl (do_build (out := [_, _, _]) rfl rfl ?_)
      refine rw_u rfl rfl (n_store_whole rfl rfl rfl rfl rfl rfl ?_)
      refine rw_t 7 rfl rfl rfl (do_assign rfl ?_)
      refine rw_t 8 rfl rfl rfl (do_assign rfl ?_)
      refine rw_nil ?_
      have hno : ¬ pushesP c p a := fun q => by rcases hc2 with w | w; exact w q.1; exact w q.2
      have e1 : pushR c p a = (Pre.none, 0, 30) := by unfold pushR; rw [if_pos ha, if_neg hno]
      refine n_ghost Int 1 (encI .i64) 0 (fun _ => rfl) (fun _ _ h => by simp [encI] at h; subst h; rfl) ?_
      refine n_nilB 11 0 12 0 rfl rfl ?_
      refine n_ghost Int 1 (encI .i64) 0 (fun _ => rfl) (fun _ _ h => by simp [encI] at h; subst h; rfl) ?_
      refine n_nilB 11 1 13 0 rfl rfl ?_
      refine n_ghost Int 1 (encI .i64) 0 (fun _ => rfl) (fun _ _ h => by simp [encI] at h; subst h; rfl) ?_
      refine n_nilB 11 2 14 0 rfl rfl ?_
      refine w_ret ?_
      exact ret_eq (.inl rfl) (.cons (res_agg rfl rfl (Nat.le_of_ble_eq_true rfl)) (.cons (res_tmp rfl) (.cons (res_tmp rfl) .nil))) [0, 1, 2, 3, 4, 5, 6, 7, 8, 12, 13, 14] (by rw [e1]; rfl) ⟨.inr ⟨_, rfl, .inl rfl⟩, .inr ⟨_, rfl, .inl rfl⟩, .inr ⟨_, rfl, .inl rfl⟩, .inr ⟨_, rfl, .inl rfl⟩, .inr ⟨_, rfl, .inl rfl⟩, .inr ⟨_, rfl, .inl rfl⟩, .inr ⟨_, rfl, .inl rfl⟩, .inr ⟨_, rfl, .inl rfl⟩, .inr ⟨_, rfl, .inl rfl⟩, .inr ⟨_, rfl, .inl (congrArg (SO.ints true .i64) (by rw [e1]; try rfl))⟩, .inr ⟨_, rfl, .inl (congrArg (SO.ints true .i64) (by rw [e1]; try rfl))⟩, .inr ⟨_, rfl, .inl (congrArg (SO.ints true .i64) (by rw [e1]; try rfl))⟩, trivial⟩ rfl (pre_ok rfl)
    refine w_skip ?_
    refine w_seq ?_
    have hpu : pushesP c p a := by unfold pushesP; simpa using hc2
    -- region 6
    refine w_region ?_
    refine rw_t 38 rfl rfl rfl (n_load_boxagg [_, _, _] rfl rfl (Nat.le_of_ble_eq_true rfl) rfl ?_)
    refine rw_t 39 rfl rfl rfl (n_callN (X' := .agg [.slc 12 0 p.Res.length none, .slc 13 0 p.Ex.length none, .slc 14 0 p.H.length none]) (N' := [SO.ints true .i64 p.Res, SO.ints true .i64 p.Ex, SO.ints true .i64 p.H]) rfl rfl (t_Copy (p := p) (by omega)) [6, 7, 8] ⟨.inr ⟨_, rfl, srv⟩, .inr ⟨_, rfl, srv⟩, .inr ⟨_, rfl, srv⟩, trivial⟩ rfl rfl rfl rfl rfl ?_)
    refine rw_t 11 rfl rfl rfl (n_alloc (n := 15) rfl ?_)
    refine rw_u rfl rfl (n_store_whole rfl rfl rfl rfl rfl rfl ?_)
    refine rw_nil ?_
    refine w_seq ?_
    -- region 7
    refine w_draw mixed [0, 1, 0, 7, 15, 0, 32, 0, 224, 480] [1023, 2047] (by kernel_rfl) (by kernel_rfl) rfl rfl rfl (hle hρ rfl) ?_
    refine ra_q (j := 0) rfl rfl rfl rfl (do_fieldaddr rfl ⟨rfl, rfl⟩) (by rfl) ?_
    refine ra_q (j := 1) rfl rfl rfl rfl (do_load_box rfl rfl rfl ⟨rfl, rfl⟩) (by rfl) ?_
    refine ra_q (j := 2) rfl rfl rfl rfl (do_move rfl ⟨rfl, rfl⟩) (by rfl) ?_
    refine ra_q (j := 3) rfl rfl rfl rfl (do_ix0 rfl rfl rfl (by first | omega | (simp only [ls] <;> omega)) ⟨rfl, rfl⟩) (by rfl) ?_
    refine ra_q (j := 4) rfl rfl rfl rfl (do_load_arr rfl rfl (by first | omega | (simp only [ls] <;> omega)) rfl ⟨rfl, rfl⟩) (by rfl) ?_
    refine ra_q (j := 5) rfl rfl rfl rfl (do_fieldaddr rfl ⟨rfl, rfl⟩) (by rfl) ?_
    refine ra_q (j := 6) rfl rfl rfl rfl (do_load_box rfl rfl rfl ⟨rfl, rfl⟩) (by rfl) ?_
    refine ra_q (j := 7) rfl rfl rfl rfl (do_move rfl ⟨rfl, rfl⟩) (by rfl) ?_
    refine ra_q (j := 8) rfl rfl rfl rfl (do_ix0 rfl rfl rfl (by first | omega | (simp only [ls] <;> omega)) ⟨rfl, rfl⟩) (by rfl) ?_
    refine ra_q (j := 9) rfl rfl rfl rfl (do_load_arr rfl rfl (by first | omega | (simp only [ls] <;> omega)) rfl ⟨rfl, rfl⟩) (by rfl) ?_
    refine n_done ?_
    refine rw_t 50 rfl rfl rfl (do_min rfl rfl ?_)
    refine rw_t 12 rfl rfl rfl (do_assign rfl ?_)
    refine rw_nil ?_
    refine w_seq ?_
    -- region 8
    refine w_region ?_
    refine rw_t 51 rfl rfl rfl (n_load_boxagg [_, _, _, _, _, _, _, _, _] rfl rfl (Nat.le_of_ble_eq_true rfl) rfl ?_)
    refine rw_t 52 rfl rfl rfl (do_move rfl ?_)
    refine rw_t 53 rfl rfl rfl (do_move rfl ?_)
    refine rw_t 54 rfl rfl rfl (n_callW (X' := .tup []) (H' := [SO.ints false .i64 c.First, SO.ints false .i64 c.Head, SO.ints false .i64 c.Rev, SO.ints false .i64 c.Cap, SO.ints false .i64 c.Arc, SO.bools false c.Back, SO.ints false .i64 p.Res, SO.ints false .i64 p.Ex, SO.ints false .i64 p.H, .box [.val (.int .i64 c.N), .val (.int .i64 c.S), .val (.int .i64 c.T), .slc 0 0 c.First.length none, .slc 1 0 c.Head.length none, .slc 2 0 c.Rev.length none, .slc 3 0 c.Cap.length none, .slc 4 0 c.Arc.length none, .slc 5 0 c.Back.length none], .box [.slc 6 0 p.Res.length none, .slc 7 0 p.Ex.length none, .slc 8 0 p.H.length none], .box [.val (.slice none 0 0), .val (.slice none 0 0), .val (.slice none 0 0)], SO.ints true .i64 ((moveP c p a (pushD c p a)).Res), SO.ints true .i64 ((moveP c p a (pushD c p a)).Ex), SO.ints true .i64 p.H, .box [.slc 12 0 p.Res.length none, .slc 13 0 p.Ex.length none, .slc 14 0 p.H.length none]]) rfl rfl (t_move (c := c) (p := p) (a := a) (d := (pushD c p a)) (h.toCsrOK) (hp.toPreLen) (ha) (hm a ha hpu)) [0, 1, 2, 3, 4, 5, 12, 13, 14, 15] ⟨.inr ⟨_, rfl, srv⟩, .inr ⟨_, rfl, srv⟩, .inr ⟨_, rfl, srv⟩, .inr ⟨_, rfl, srv⟩, .inr ⟨_, rfl, srv⟩, .inr ⟨_, rfl, srv⟩, .inr ⟨_, rfl, .inl rfl⟩, .inr ⟨_, rfl, .inl rfl⟩, .inr ⟨_, rfl, .inl rfl⟩, .inr ⟨_, rfl, .inl rfl⟩, trivial⟩ rfl rfl ⟨fun h => (by cases h), ⟨fun h => (by cases h), ⟨fun h => (by cases h), ⟨fun h => (by cases h), ⟨fun h => (by cases h), ⟨fun h => (by cases h), ⟨fun h => .inl rfl, ⟨fun h => .inl rfl, ⟨fun h => .inl rfl, ⟨fun h => .inl rfl, (fun y hy => by simp at hy)⟩⟩⟩⟩⟩⟩⟩⟩⟩⟩ rfl rfl ?_)
    refine rw_nil ?_
    refine w_seq ?_
    -- region 9
    refine w_region ?_
    refine rw_t 55 rfl rfl rfl (n_load_boxagg [_, _, _] rfl rfl (Nat.le_of_ble_eq_true rfl) rfl ?_)
    refine rw_t 56 rfl rfl rfl (do_move rfl ?_)
    refine rw_u rfl rfl (n_store_whole rfl rfl rfl rfl rfl rfl ?_)
    refine rw_t 7 rfl rfl rfl (do_assign rfl ?_)
    refine rw_t 8 rfl rfl rfl (do_assign rfl ?_)
    refine rw_nil ?_
    have e1 : pushR c p a = (moveP c p a (pushD c p a), pushD c p a, 0) := by unfold pushR; rw [if_pos ha, if_pos hpu]
    obtain ⟨l1, l2, l3⟩ := moveP_len c p a (pushD c p a)
    refine w_ret ?_
    exact ret_eq (.inl rfl) (.cons (res_agg rfl rfl (Nat.le_of_ble_eq_true rfl)) (.cons (res_tmp rfl) (.cons (res_tmp rfl) .nil))) [0, 1, 2, 3, 4, 5, 6, 7, 8, 12, 13, 14] (by rw [e1]; first | (simp only [l1, l2, l3]; done) | (simp only [l1, l2, l3]; rfl)) ⟨.inr ⟨_, rfl, .inl rfl⟩, .inr ⟨_, rfl, .inl rfl⟩, .inr ⟨_, rfl, .inl rfl⟩, .inr ⟨_, rfl, .inl rfl⟩, .inr ⟨_, rfl, .inl rfl⟩, .inr ⟨_, rfl, .inl rfl⟩, .inr ⟨_, rfl, .inl rfl⟩, .inr ⟨_, rfl, .inl rfl⟩, .inr ⟨_, rfl, .inl rfl⟩, .inr ⟨_, rfl, .inl (congrArg (SO.ints true .i64) (by rw [e1]; try rfl))⟩, .inr ⟨_, rfl, .inl (congrArg (SO.ints true .i64) (by rw [e1]; try rfl))⟩, .inr ⟨_, rfl, .inl (congrArg (SO.ints true .i64) (by rw [e1]; try rfl))⟩, trivial⟩ rfl (pre_ok rfl)
  · -- region 1
    refine w_region ?_
    refine rw_t 14 rfl rfl rfl (n_load_boxagg [_, _, _, _, _, _, _, _, _] rfl rfl (Nat.le_of_ble_eq_true rfl) rfl ?_)
    refine rw_t 15 rfl rfl rfl (do_move rfl ?_)
    refine rw_t 16 rfl rfl rfl (do_callR (X' := .tup [.val (.int .i64 0), .val (.bool false)]) rfl rfl (t_TailN (c := c) (a := a) (h) (ha)) [0, 1, 2, 3, 4, 5] ⟨.inr ⟨_, rfl, srv⟩, .inr ⟨_, rfl, srv⟩, .inr ⟨_, rfl, srv⟩, .inr ⟨_, rfl, srv⟩, .inr ⟨_, rfl, srv⟩, .inr ⟨_, rfl, srv⟩, trivial⟩ rfl rfl rfl ?_)
    refine rw_t 13 rfl rfl rfl (do_move rfl ?_)
    refine rw_t 17 rfl rfl rfl (do_extract rfl rfl ?_)
    refine rw_t 18 rfl rfl rfl (do_extract rfl rfl ?_)
    refine rw_t 9 rfl rfl rfl (do_assign rfl ?_)
    refine rw_t 10 rfl rfl rfl (do_assign rfl ?_)
    refine rw_nil ?_
    refine w_seq ?_
    refine w_block ?_
    refine w_seq ?_
    -- region 2
    refine w_region ?_
    refine rw_t 20 rfl rfl rfl (do_move rfl ?_)
    refine rw_t 21 rfl rfl rfl (do_not rfl ?_)
    refine rw_t 19 rfl rfl rfl (do_assign rfl ?_)
    refine rw_nil ?_
    refine w_cond rfl (fun hc3 => ?_) (fun hc3 => ?_)
    rotate_left
    · exfalso; first | (cases hc3; done) | exact (hc3 trivial) | (try simp only [bs] at hc3; first | omega | (simp_all; done) | (simp_all; omega))
    refine w_seq ?_
    -- region 3
    refine w_region ?_
    refine rw_t 22 rfl rfl rfl (do_build (out := [_, _, _]) rfl rfl ?_)
    refine rw_u rfl rfl (n_store_whole rfl rfl rfl rfl rfl rfl ?_)
    refine rw_t 7 rfl rfl rfl (do_assign rfl ?_)
    refine rw_t 8 rfl rfl rfl (do_assign rfl ?_)
    refine rw_nil ?_
    have e1 : pushR c p a = (Pre.none, 0, 2) := by unfold pushR; rw [if_neg ha]
    refine n_ghost Int 1 (encI .i64) 0 (fun _ => rfl) (fun _ _ h => by simp [encI] at h; subst h; rfl) ?_
    refine n_nilB 11 0 12 0 rfl rfl ?_
    refine n_ghost Int 1 (encI .i64) 0 (fun _ => rfl) (fun _ _ h => by simp [encI] at h; subst h; rfl) ?_
    refine n_nilB 11 1 13 0 rfl rfl ?_
    refine n_ghost Int 1 (encI .i64) 0 (fun _ => rfl) (fun _ _ h => by simp [encI] at h; subst h; rfl) ?_
    refine n_nilB 11 2 14 0 rfl rfl ?_
    refine w_ret ?_
    exact ret_eq (.inl rfl) (.cons (res_agg rfl rfl (Nat.le_of_ble_eq_true rfl)) (.cons (res_tmp rfl) (.cons (res_tmp rfl) .nil))) [0, 1, 2, 3, 4, 5, 6, 7, 8, 12, 13, 14] (by rw [e1]; rfl) ⟨.inr ⟨_, rfl, .inl rfl⟩, .inr ⟨_, rfl, .inl rfl⟩, .inr ⟨_, rfl, .inl rfl⟩, .inr ⟨_, rfl, .inl rfl⟩, .inr ⟨_, rfl, .inl rfl⟩, .inr ⟨_, rfl, .inl rfl⟩, .inr ⟨_, rfl, .inl rfl⟩, .inr ⟨_, rfl, .inl rfl⟩, .inr ⟨_, rfl, .inl rfl⟩, .inr ⟨_, rfl, .inl (congrArg (SO.ints true .i64) (by rw [e1]; try rfl))⟩, .inr ⟨_, rfl, .inl (congrArg (SO.ints true .i64) (by rw [e1]; try rfl))⟩, .inr ⟨_, rfl, .inl (congrArg (SO.ints true .i64) (by rw [e1]; try rfl))⟩, trivial⟩ rfl (pre_ok rfl)
end Go.Proofs

set_option linter.unusedVariables false
set_option linter.unusedSimpArgs false
namespace Go.Proofs
open Go Go.Sx Go.RowKit
/-- The lowest end of S residual arcs, from some number down. -/
def lowL (c : Csr) (p : Pre) (a0 : Int) (m : Int) : Nat → Int
  | 0 => m
  | k + 1 => if p.Res.getD (a0 + k).toNat 0 > 0 then (if p.H.getD (c.Head.getD (a0 + k).toNat 0).toNat 0 < lowL c p a0 m k then p.H.getD (c.Head.getD (a0 + k).toNat 0).toNat 0 else lowL c p a0 m k) else lowL c p a0 m k
def leastL (c : Csr) (p : Pre) (u : Int) : Int := lowL c p (c.First.getD u.toNat 0) (2 * c.N) (manyOf c u)
theorem lowL_in {c : Csr} {p : Pre} (hh : ∀ v, 0 ≤ p.H.getD v 0 ∧ p.H.getD v 0 ≤ 8192) (a0 : Int) {m : Int} (hm : 0 ≤ m ∧ m ≤ 8192) : ∀ k, 0 ≤ lowL c p a0 m k ∧ lowL c p a0 m k ≤ 8192
  | 0 => hm
  | k + 1 => by
    have ih := lowL_in (c := c) hh a0 hm k
    have := hh (c.Head.getD (a0 + k).toNat 0).toNat
    unfold lowL
    repeat' split
    all_goals omega
/-- P7.3. -/
def liftR (c : Csr) (p : Pre) (u : Int) : Pre × Int :=
  if 0 ≤ u ∧ u < c.N then (if stuckP c p u then (⟨p.Res, p.Ex, p.H.set u.toNat (leastL c p u + 1)⟩, 0) else (Pre.none, 30)) else (Pre.none, 2)
-- f24 "acequia/pre.Lift"
set_option maxHeartbeats 8000000 in
set_option synthInstance.maxHeartbeats 400000 in
set_option synthInstance.maxSize 2000 in
theorem t_Lift (c : Csr) (p : Pre) (h : CsrT c) (hp : PreIn c p) (u : Int) : Tri Try.prog 24 [.agg [.val (.int .i64 c.N), .val (.int .i64 c.S), .val (.int .i64 c.T), .slc 0 0 c.First.length none, .slc 1 0 c.Head.length none, .slc 2 0 c.Rev.length none, .slc 3 0 c.Cap.length none, .slc 4 0 c.Arc.length none, .slc 5 0 c.Back.length none], .agg [.slc 6 0 p.Res.length none, .slc 7 0 p.Ex.length none, .slc 8 0 p.H.length none], .val (.int .i64 u)] [SO.ints false .i64 c.First, SO.ints false .i64 c.Head, SO.ints false .i64 c.Rev, SO.ints false .i64 c.Cap, SO.ints false .i64 c.Arc, SO.bools false c.Back, SO.ints false .i64 p.Res, SO.ints false .i64 p.Ex, SO.ints false .i64 p.H] (fun s H => s = .tup [.agg [.slc 9 0 ((liftR c p u).1.Res.length) none, .slc 10 0 ((liftR c p u).1.Ex.length) none, .slc 11 0 ((liftR c p u).1.H.length) none], .val (.int .i64 ((liftR c p u).2))] ∧ H = [SO.ints false .i64 c.First, SO.ints false .i64 c.Head, SO.ints false .i64 c.Rev, SO.ints false .i64 c.Cap, SO.ints false .i64 c.Arc, SO.bools false c.Back, SO.ints false .i64 p.Res, SO.ints false .i64 p.Ex, SO.ints false .i64 p.H, SO.ints true .i64 ((liftR c p u).1.Res), SO.ints true .i64 ((liftR c p u).1.Ex), SO.ints true .i64 ((liftR c p u).1.H)]) := by
  refine tri_of_w (fn := Try.f24) Try.func24 rfl (by simp [Try.f24]) ?_
  intro ρ w hρ
  refine w_seq ?_
  have hn := h.n
  have hf := h.first
  have hhd := h.head
  have hrl := h.rev
  have hcl := h.cap
  have hal := h.arc
  have hbl := h.back
  have hr := hp.res
  have hx := hp.ex
  have hh := hp.h
  have hsm := h.small
  -- region 0
  refine w_region ?_
  refine rw_t 3 rfl rfl rfl (n_box_agg (n := 9) rfl rfl ?_)
  refine rw_t 4 rfl rfl rfl (n_box_agg (n := 10) rfl rfl ?_)
  refine rw_t 6 rfl rfl rfl (n_alloc (n := 11) rfl ?_)
  refine rw_t 7 rfl rfl rfl (do_assign rfl ?_)
  refine rw_nil ?_
  refine w_seq ?_
  refine w_block ?_
  refine w_seqB 11 ((u < 0 ∨ u ≥ c.N)) ?_ ?_
  · -- region 1
    refine w_region ?_
    refine rw_t 12 rfl rfl rfl (do_move rfl ?_)
    refine rw_t 13 rfl rfl rfl (do_bin rfl rfl rfl ?_)
    refine rw_t 14 rfl rfl rfl (do_move rfl ?_)
    refine rw_case 14 rfl (fun g1 => ?_) (fun g1 => ?_)
    · have kg1 := g1
      try simp only [bs] at kg1
      refine rw_gf 15 2 14 false rfl rfl rfl rfl rfl rfl (by rw [g1]; decide) ?_
      refine rw_gf 16 2 14 false rfl rfl rfl rfl rfl rfl (by rw [g1]; decide) ?_
      refine rw_gf 17 2 14 false rfl rfl rfl rfl rfl rfl (by rw [g1]; decide) ?_
      refine rw_gf 18 2 14 false rfl rfl rfl rfl rfl rfl (by rw [g1]; decide) ?_
      refine rw_t 19 rfl rfl rfl (do_pick_t rfl g1 rfl ?_)
      refine rw_t 11 rfl rfl rfl (do_assign rfl ?_)
      refine rw_nil ?_
      refine ⟨rfl, ⟨_, rfl, by first | (simp; done) | (simp only [bs]; omega) | (simp [*]; done) | (simp; omega) | (constructor <;> intro h <;> simp_all <;> omega)⟩, ?_⟩
      repeat (refine ⟨⟨_, rfl, rfl⟩, ?_⟩)
      exact trivial
    · have kg1 := g1
      try simp only [bs] at kg1
      refine rw_gt 15 2 14 false rfl rfl rfl rfl rfl rfl g1 (do_move rfl ?_)
      refine rw_gt 16 2 14 false rfl rfl rfl rfl rfl rfl g1 (do_fieldaddr rfl ?_)
      refine rw_gt 17 2 14 false rfl rfl rfl rfl rfl rfl g1 (do_load_box rfl rfl rfl ?_)
      refine rw_gt 18 2 14 false rfl rfl rfl rfl rfl rfl g1 (do_bin rfl rfl rfl ?_)
      refine rw_t 19 rfl rfl rfl (do_pick_f rfl g1 rfl ?_)
      refine rw_t 11 rfl rfl rfl (do_assign rfl ?_)
      refine rw_nil ?_
      refine ⟨rfl, ⟨_, rfl, by first | (simp; done) | (simp only [bs]; omega) | (simp [*]; done) | (simp; omega) | (constructor <;> intro h <;> simp_all <;> omega)⟩, ?_⟩
      repeat (refine ⟨⟨_, rfl, rfl⟩, ?_⟩)
      exact trivial
  intro b1 hb1
  refine w_condP hb1 rfl (fun hc1 => ?_) (fun hc1 => ?_)
  · refine w_seq ?_
    -- region 2
    refine w_region ?_
    refine rw_t 20 rfl rfl rfl (do_build (out := [_, _, _]) rfl rfl ?_)
    refine rw_u rfl rfl (n_store_whole rfl rfl rfl rfl rfl rfl ?_)
    refine rw_t 7 rfl rfl rfl (do_assign rfl ?_)
    refine rw_nil ?_
    have hno : ¬ (0 ≤ u ∧ u < c.N) := by omega
    have e1 : liftR c p u = (Pre.none, 2) := by unfold liftR; rw [if_neg hno]
    refine n_ghost Int 1 (encI .i64) 0 (fun _ => rfl) (fun _ _ h => by simp [encI] at h; subst h; rfl) ?_
    refine n_nilB 11 0 12 0 rfl rfl ?_
    refine n_ghost Int 1 (encI .i64) 0 (fun _ => rfl) (fun _ _ h => by simp [encI] at h; subst h; rfl) ?_
    refine n_nilB 11 1 13 0 rfl rfl ?_
    refine n_ghost Int 1 (encI .i64) 0 (fun _ => rfl) (fun _ _ h => by simp [encI] at h; subst h; rfl) ?_
    refine n_nilB 11 2 14 0 rfl rfl ?_
    refine w_ret ?_
    exact ret_eq (.inl rfl) (.cons (res_agg rfl rfl (Nat.le_of_ble_eq_true rfl)) (.cons (res_tmp rfl) .nil)) [0, 1, 2, 3, 4, 5, 6, 7, 8, 12, 13, 14] (by rw [e1]; rfl) ⟨.inr ⟨_, rfl, .inl rfl⟩, .inr ⟨_, rfl, .inl rfl⟩, .inr ⟨_, rfl, .inl rfl⟩, .inr ⟨_, rfl, .inl rfl⟩, .inr ⟨_, rfl, .inl rfl⟩, .inr ⟨_, rfl, .inl rfl⟩, .inr ⟨_, rfl, .inl rfl⟩, .inr ⟨_, rfl, .inl rfl⟩, .inr ⟨_, rfl, .inl rfl⟩, .inr ⟨_, rfl, .inl (congrArg (SO.ints true .i64) (by rw [e1]; try rfl))⟩, .inr ⟨_, rfl, .inl (congrArg (SO.ints true .i64) (by rw [e1]; try rfl))⟩, .inr ⟨_, rfl, .inl (congrArg (SO.ints true .i64) (by rw [e1]; try rfl))⟩, trivial⟩ rfl (pre_ok rfl)
  refine w_seq ?_
  have hu : 0 ≤ u ∧ u < c.N := by omega
  have hm := h.mono u.toNat (by omega)
  have hmt : (u + 1).toNat = u.toNat + 1 := by omega
  rw [← hmt] at hm
  have hmo : manyOf c u = (c.First.getD (u + 1).toNat 0 - c.First.getD u.toNat 0).toNat := rfl
  have hsm := h.small
  -- region 3
  refine w_region ?_
  refine rw_t 22 rfl rfl rfl (n_load_boxagg [_, _, _, _, _, _, _, _, _] rfl rfl (Nat.le_of_ble_eq_true rfl) rfl ?_)
  refine rw_t 23 rfl rfl rfl (n_load_boxagg [_, _, _] rfl rfl (Nat.le_of_ble_eq_true rfl) rfl ?_)
  refine rw_t 24 rfl rfl rfl (do_move rfl ?_)
  refine rw_t 25 rfl rfl rfl (do_callR (X' := .val (.bool (decide (stuckP c p u)))) rfl rfl (t_stuck (c := c) (p := p) (u := u) (h) (hp) (hu)) [0, 1, 2, 3, 4, 5, 6, 7, 8] ⟨.inr ⟨_, rfl, srv⟩, .inr ⟨_, rfl, srv⟩, .inr ⟨_, rfl, srv⟩, .inr ⟨_, rfl, srv⟩, .inr ⟨_, rfl, srv⟩, .inr ⟨_, rfl, srv⟩, .inr ⟨_, rfl, srv⟩, .inr ⟨_, rfl, srv⟩, .inr ⟨_, rfl, srv⟩, trivial⟩ rfl rfl rfl ?_)
  refine rw_t 26 rfl rfl rfl (do_not rfl ?_)
  refine rw_t 21 rfl rfl rfl (do_assign rfl ?_)
  refine rw_nil ?_
  refine w_cond rfl (fun hc2 => ?_) (fun hc2 => ?_)
  all_goals try simp only [bs] at hc2
  · refine w_seq ?_
    -- region 4
    refine w_region ?_
    refine rw_t 27 rfl rfl rfl (do_build (out := [_, _, _]) rfl rfl ?_)
    refine rw_u rfl rfl (n_store_whole rfl rfl rfl rfl rfl rfl ?_)
    refine rw_t 7 rfl rfl rfl (do_assign rfl ?_)
    refine rw_nil ?_
    have hno : ¬ stuckP c p u := by simpa using hc2
    have e1 : liftR c p u = (Pre.none, 30) := by unfold liftR; rw [if_pos hu, if_neg hno]
    refine n_ghost Int 1 (encI .i64) 0 (fun _ => rfl) (fun _ _ h => by simp [encI] at h; subst h; rfl) ?_
    refine n_nilB 11 0 12 0 rfl rfl ?_
    refine n_ghost Int 1 (encI .i64) 0 (fun _ => rfl) (fun _ _ h => by simp [encI] at h; subst h; rfl) ?_
    refine n_nilB 11 1 13 0 rfl rfl ?_
    refine n_ghost Int 1 (encI .i64) 0 (fun _ => rfl) (fun _ _ h => by simp [encI] at h; subst h; rfl) ?_
    refine n_nilB 11 2 14 0 rfl rfl ?_
    refine w_ret ?_
    exact ret_eq (.inl rfl) (.cons (res_agg rfl rfl (Nat.le_of_ble_eq_true rfl)) (.cons (res_tmp rfl) .nil)) [0, 1, 2, 3, 4, 5, 6, 7, 8, 12, 13, 14] (by rw [e1]; rfl) ⟨.inr ⟨_, rfl, .inl rfl⟩, .inr ⟨_, rfl, .inl rfl⟩, .inr ⟨_, rfl, .inl rfl⟩, .inr ⟨_, rfl, .inl rfl⟩, .inr ⟨_, rfl, .inl rfl⟩, .inr ⟨_, rfl, .inl rfl⟩, .inr ⟨_, rfl, .inl rfl⟩, .inr ⟨_, rfl, .inl rfl⟩, .inr ⟨_, rfl, .inl rfl⟩, .inr ⟨_, rfl, .inl (congrArg (SO.ints true .i64) (by rw [e1]; try rfl))⟩, .inr ⟨_, rfl, .inl (congrArg (SO.ints true .i64) (by rw [e1]; try rfl))⟩, .inr ⟨_, rfl, .inl (congrArg (SO.ints true .i64) (by rw [e1]; try rfl))⟩, trivial⟩ rfl (pre_ok rfl)
  refine w_skip ?_
  refine w_seq ?_
  -- region 5
  refine w_region ?_
  refine rw_t 28 rfl rfl rfl (do_fieldaddr rfl ?_)
  refine rw_t 29 rfl rfl rfl (do_load_box rfl rfl rfl ?_)
  refine rw_t 30 rfl rfl rfl (do_mul rfl rfl (by omega) ?_)
  refine rw_t 8 rfl rfl rfl (n_alloc (n := 12) rfl ?_)
  refine rw_u rfl rfl (n_store_box (f := 0) rfl rfl rfl (Nat.le_of_ble_eq_true rfl) rfl ?_)
  refine rw_nil ?_
  refine w_seq ?_
  refine w_seq ?_
  -- region 6
  refine w_region ?_
  refine rw_t 31 rfl rfl rfl (n_load_boxagg [_, _, _, _, _, _, _, _, _] rfl rfl (Nat.le_of_ble_eq_true rfl) rfl ?_)
  refine rw_t 32 rfl rfl rfl (do_move rfl ?_)
  refine rw_t 33 rfl rfl rfl (n_callN (X' := .func 75 [] [.ptr 13 0 0, .ptr 14 0 0]) (N' := [.box [.val (.int .i64 c.N), .val (.int .i64 c.S), .val (.int .i64 c.T), .slc 0 0 c.First.length none, .slc 1 0 c.Head.length none, .slc 2 0 c.Rev.length none, .slc 3 0 c.Cap.length none, .slc 4 0 c.Arc.length none, .slc 5 0 c.Back.length none], .box [.val (.int .i64 u)]]) rfl rfl (t_arcs (c := c) (u := u)) [0, 1, 2, 3, 4, 5] ⟨.inr ⟨_, rfl, srv⟩, .inr ⟨_, rfl, srv⟩, .inr ⟨_, rfl, srv⟩, .inr ⟨_, rfl, srv⟩, .inr ⟨_, rfl, srv⟩, .inr ⟨_, rfl, srv⟩, trivial⟩ rfl rfl rfl rfl rfl ?_)
  refine rw_nil ?_
  refine w_block ?_
  refine w_rf [(2, .val (.int .i64 u)), (3, .ptr 9 0 0), (4, .ptr 10 0 0), (6, .ptr 11 0 0), (7, .val (.int .i64 0)), (8, .ptr 12 0 0)] 15 [.yield 15, .ptr 13 0 0, .ptr 14 0 0] (fun q1 => [SO.ints false .i64 c.First, SO.ints false .i64 c.Head, SO.ints false .i64 c.Rev, SO.ints false .i64 c.Cap, SO.ints false .i64 c.Arc, SO.bools false c.Back, SO.ints false .i64 p.Res, SO.ints false .i64 p.Ex, SO.ints false .i64 p.H, .box [.val (.int .i64 c.N), .val (.int .i64 c.S), .val (.int .i64 c.T), .slc 0 0 c.First.length none, .slc 1 0 c.Head.length none, .slc 2 0 c.Rev.length none, .slc 3 0 c.Cap.length none, .slc 4 0 c.Arc.length none, .slc 5 0 c.Back.length none], .box [.slc 6 0 p.Res.length none, .slc 7 0 p.Ex.length none, .slc 8 0 p.H.length none], .box [.val (.slice none 0 0), .val (.slice none 0 0), .val (.slice none 0 0)], .box [.val (.int .i64 (2 * c.N))], .box [.val (.int .i64 c.N), .val (.int .i64 c.S), .val (.int .i64 c.T), .slc 0 0 c.First.length none, .slc 1 0 c.Head.length none, .slc 2 0 c.Rev.length none, .slc 3 0 c.Cap.length none, .slc 4 0 c.Arc.length none, .slc 5 0 c.Back.length none], .box [.val (.int .i64 u)], .gen [.val (.int .i64 u), .ptr 9 0 0, .ptr 10 0 0, .ptr 11 0 0, .val (.int .i64 0), .ptr 12 0 0] (q1 .ready none)]) rfl rfl rfl rfl (fun _ => rfl) ⟨⟨_, rfl, rfl⟩, ⟨_, rfl, rfl⟩, ⟨_, rfl, rfl⟩, ⟨_, rfl, rfl⟩, ⟨_, rfl, rfl⟩, ⟨_, rfl, rfl⟩, trivial⟩ (fun q1 hq1 => ?_)
  refine tri_of_w (fn := Try.f75) Try.func75 rfl (by simp [Try.f75]) ?_
  intro ρr1 wr1 hρ1
  refine w_seq ?_
  -- region 0
  refine w_region ?_
  refine rw_t 5 rfl rfl rfl (do_fieldaddr rfl ?_)
  refine rw_t 6 rfl rfl rfl (do_load_box rfl rfl rfl ?_)
  refine rw_t 7 rfl rfl rfl (do_load_box rfl rfl rfl ?_)
  refine rw_t 8 rfl rfl rfl (do_ix0 rfl rfl rfl (by first | omega | (simp only [ls] <;> omega)) ?_)
  refine rw_t 9 rfl rfl rfl (do_load_arr rfl rfl (by first | omega | (simp only [ls] <;> omega)) rfl ?_)
  refine rw_t 4 rfl rfl rfl (do_assign rfl ?_)
  refine rw_nil ?_
  refine w_block ?_
  refine w_loopS (ι := Nat) (fun i => [(0, .yield 15), (1, .ptr 13 0 0), (2, .ptr 14 0 0), (4, .val (.int .i64 (c.First.getD u.toNat 0 + (i : Int))))]) (fun i => [SO.ints false .i64 c.First, SO.ints false .i64 c.Head, SO.ints false .i64 c.Rev, SO.ints false .i64 c.Cap, SO.ints false .i64 c.Arc, SO.bools false c.Back, SO.ints false .i64 p.Res, SO.ints false .i64 p.Ex, SO.ints false .i64 p.H, .box [.val (.int .i64 c.N), .val (.int .i64 c.S), .val (.int .i64 c.T), .slc 0 0 c.First.length none, .slc 1 0 c.Head.length none, .slc 2 0 c.Rev.length none, .slc 3 0 c.Cap.length none, .slc 4 0 c.Arc.length none, .slc 5 0 c.Back.length none], .box [.slc 6 0 p.Res.length none, .slc 7 0 p.Ex.length none, .slc 8 0 p.H.length none], .box [.val (.slice none 0 0), .val (.slice none 0 0), .val (.slice none 0 0)], .box [.val (.int .i64 (lowL c p (c.First.getD u.toNat 0) (2 * c.N) i))], .box [.val (.int .i64 c.N), .val (.int .i64 c.S), .val (.int .i64 c.T), .slc 0 0 c.First.length none, .slc 1 0 c.Head.length none, .slc 2 0 c.Rev.length none, .slc 3 0 c.Cap.length none, .slc 4 0 c.Arc.length none, .slc 5 0 c.Back.length none], .box [.val (.int .i64 u)], .gen [.val (.int .i64 u), .ptr 9 0 0, .ptr 10 0 0, .ptr 11 0 0, .val (.int .i64 0), .ptr 12 0 0] (q1 .ready none)]) (fun i => manyOf c u - i) (fun i => i ≤ manyOf c u) (0) [0, 1, 2, 3, 4, 5, 6, 7, 8, 9, 10, 11, 12, 13, 14, 15] (by simp) ⟨.inr ⟨_, rfl, .inl rfl⟩, .inr ⟨_, rfl, .inl rfl⟩, .inr ⟨_, rfl, .inl rfl⟩, .inr ⟨_, rfl, .inl rfl⟩, .inr ⟨_, rfl, .inl rfl⟩, .inr ⟨_, rfl, .inl rfl⟩, .inr ⟨_, rfl, .inl rfl⟩, .inr ⟨_, rfl, .inl rfl⟩, .inr ⟨_, rfl, .inl rfl⟩, .inr ⟨_, rfl, .inl rfl⟩, .inr ⟨_, rfl, .inl rfl⟩, .inr ⟨_, rfl, .inl rfl⟩, .inr ⟨_, rfl, .inl rfl⟩, .inr ⟨_, rfl, .inl rfl⟩, .inr ⟨_, rfl, .inl rfl⟩, .inr ⟨_, rfl, .inl rfl⟩, trivial⟩ rfl (pre_ok rfl) hρ1 ⟨⟨_, rfl, rfl⟩, ⟨_, rfl, rfl⟩, ⟨_, rfl, rfl⟩, ⟨_, rfl, Eq.symm (val_congr (by simp))⟩, trivial⟩ ?_
  intro i hi
  refine w_seq ?_
  refine w_seq ?_
  -- region 1
  refine w_region ?_
  refine rw_t 10 rfl rfl rfl (do_move rfl ?_)
  refine rw_t 11 rfl rfl rfl (do_fieldaddr rfl ?_)
  refine rw_t 12 rfl rfl rfl (do_load_box rfl rfl rfl ?_)
  refine rw_t 13 rfl rfl rfl (do_load_box rfl rfl rfl ?_)
  refine rw_t 14 rfl rfl rfl (do_add rfl rfl (by omega) ?_)
  refine rw_t 15 rfl rfl rfl (do_ix0 rfl rfl rfl (by first | omega | (simp only [ls] <;> omega)) ?_)
  refine rw_t 16 rfl rfl rfl (do_load_arr rfl rfl (by first | omega | (simp only [ls] <;> omega)) rfl ?_)
  refine rw_t 17 rfl rfl rfl (do_bin rfl rfl rfl ?_)
  refine rw_nil ?_
  refine w_cond rfl (fun hc3 => ?_) (fun hc3 => ?_)
  all_goals try simp only [bs] at hc3
  rotate_left
  · refine w_exit ?_ -- exit 0
    refine ret_iter (.inr rfl) rfl (Y := [SO.ints false .i64 c.First, SO.ints false .i64 c.Head, SO.ints false .i64 c.Rev, SO.ints false .i64 c.Cap, SO.ints false .i64 c.Arc, SO.bools false c.Back, SO.ints false .i64 p.Res, SO.ints false .i64 p.Ex, SO.ints false .i64 p.H, .box [.val (.int .i64 c.N), .val (.int .i64 c.S), .val (.int .i64 c.T), .slc 0 0 c.First.length none, .slc 1 0 c.Head.length none, .slc 2 0 c.Rev.length none, .slc 3 0 c.Cap.length none, .slc 4 0 c.Arc.length none, .slc 5 0 c.Back.length none], .box [.slc 6 0 p.Res.length none, .slc 7 0 p.Ex.length none, .slc 8 0 p.H.length none], .box [.val (.slice none 0 0), .val (.slice none 0 0), .val (.slice none 0 0)], .box [.val (.int .i64 (lowL c p (c.First.getD u.toNat 0) (2 * c.N) i))], .box [.val (.int .i64 c.N), .val (.int .i64 c.S), .val (.int .i64 c.T), .slc 0 0 c.First.length none, .slc 1 0 c.Head.length none, .slc 2 0 c.Rev.length none, .slc 3 0 c.Cap.length none, .slc 4 0 c.Arc.length none, .slc 5 0 c.Back.length none], .box [.val (.int .i64 u)], .gen [.val (.int .i64 u), .ptr 9 0 0, .ptr 10 0 0, .ptr 11 0 0, .val (.int .i64 0), .ptr 12 0 0] (q1 .ready none)]) [0, 1, 2, 3, 4, 5, 6, 7, 8, 9, 10, 11, 12, 13, 14, 15] ⟨.inr ⟨_, rfl, .inl rfl⟩, .inr ⟨_, rfl, .inl rfl⟩, .inr ⟨_, rfl, .inl rfl⟩, .inr ⟨_, rfl, .inl rfl⟩, .inr ⟨_, rfl, .inl rfl⟩, .inr ⟨_, rfl, .inl rfl⟩, .inr ⟨_, rfl, .inl rfl⟩, .inr ⟨_, rfl, .inl rfl⟩, .inr ⟨_, rfl, .inl rfl⟩, .inr ⟨_, rfl, .inl rfl⟩, .inr ⟨_, rfl, .inl rfl⟩, .inr ⟨_, rfl, .inl rfl⟩, .inr ⟨_, rfl, .inl rfl⟩, .inr ⟨_, rfl, .inl rfl⟩, .inr ⟨_, rfl, .inl rfl⟩, .inr ⟨_, rfl, .inl rfl⟩, trivial⟩ rfl (pre_ok rfl) ?_
    refine iter_none rfl ?_
    refine w_seq ?_
    have hl10 := lowL_in (c := c) hp.hi (c.First.getD u.toNat 0) (m := 2 * c.N) (by omega) i
    -- region 10
    refine w_region ?_
    refine rw_t 52 rfl rfl rfl (n_load_boxagg [_, _, _] rfl rfl (Nat.le_of_ble_eq_true rfl) rfl ?_)
    refine rw_t 53 rfl rfl rfl (n_callN (X' := .agg [.slc 16 0 p.Res.length none, .slc 17 0 p.Ex.length none, .slc 18 0 p.H.length none]) (N' := [SO.ints true .i64 p.Res, SO.ints true .i64 p.Ex, SO.ints true .i64 p.H]) rfl rfl (t_Copy (p := p) (by omega)) [6, 7, 8] ⟨.inr ⟨_, rfl, srv⟩, .inr ⟨_, rfl, srv⟩, .inr ⟨_, rfl, srv⟩, trivial⟩ rfl rfl rfl rfl rfl ?_)
    refine rw_t 10 rfl rfl rfl (n_alloc (n := 19) rfl ?_)
    refine rw_u rfl rfl (n_store_whole rfl rfl rfl rfl rfl rfl ?_)
    refine rw_nil ?_
    refine w_seq ?_
    -- region 11
    refine w_region ?_
    refine rw_t 54 rfl rfl rfl (do_fieldaddr rfl ?_)
    refine rw_t 55 rfl rfl rfl (do_load_box rfl rfl rfl ?_)
    refine rw_t 56 rfl rfl rfl (do_move rfl ?_)
    refine rw_t 57 rfl rfl rfl (do_load_box rfl rfl rfl ?_)
    refine rw_t 58 rfl rfl rfl (do_add rfl rfl (by omega) ?_)
    refine rw_t 59 rfl rfl rfl (do_ix0 rfl rfl rfl (by first | omega | (simp only [ls] <;> omega)) ?_)
    refine rw_u rfl rfl (n_store_arr (z := (lowL c p (c.First.getD u.toNat 0) (2 * c.N) i + 1)) rfl rfl rfl (by first | omega | (simp only [ls] <;> omega)) rfl (by decide) rfl ?_)
    refine rw_nil ?_
    refine w_seq ?_
    -- region 12
    refine w_region ?_
    refine rw_t 60 rfl rfl rfl (n_load_boxagg [_, _, _] rfl rfl (Nat.le_of_ble_eq_true rfl) rfl ?_)
    refine rw_u rfl rfl (n_store_whole rfl rfl rfl rfl rfl rfl ?_)
    refine rw_t 7 rfl rfl rfl (do_assign rfl ?_)
    refine rw_nil ?_
    have hsk : stuckP c p u := by simpa using hc2
    have hi' : i = manyOf c u := by omega
    subst hi'
    have e1 : liftR c p u = (⟨p.Res, p.Ex, p.H.set u.toNat (leastL c p u + 1)⟩, 0) := by unfold liftR; rw [if_pos hu, if_pos hsk]
    refine w_ret ?_
    exact ret_eq (.inl rfl) (.cons (res_agg rfl rfl (Nat.le_of_ble_eq_true rfl)) (.cons (res_tmp rfl) .nil)) [0, 1, 2, 3, 4, 5, 6, 7, 8, 16, 17, 18] (by rw [e1]; simp only [List.length_set]; try rfl) ⟨.inr ⟨_, rfl, .inl rfl⟩, .inr ⟨_, rfl, .inl rfl⟩, .inr ⟨_, rfl, .inl rfl⟩, .inr ⟨_, rfl, .inl rfl⟩, .inr ⟨_, rfl, .inl rfl⟩, .inr ⟨_, rfl, .inl rfl⟩, .inr ⟨_, rfl, .inl rfl⟩, .inr ⟨_, rfl, .inl rfl⟩, .inr ⟨_, rfl, .inl rfl⟩, .inr ⟨_, rfl, .inl (congrArg (SO.ints true .i64) (by rw [e1]; try rfl))⟩, .inr ⟨_, rfl, .inl (congrArg (SO.ints true .i64) (by rw [e1]; try rfl))⟩, .inr ⟨_, rfl, .inl (congrArg (SO.ints true .i64) (by rw [e1]; try rfl))⟩, trivial⟩ rfl (pre_ok rfl)
  refine w_skip ?_
  refine w_seq ?_
  refine w_block ?_
  refine w_seq ?_
  -- region 3
  refine w_region ?_
  refine rw_t 20 rfl rfl rfl (do_move rfl ?_)
  refine rw_t 21 rfl rfl rfl (do_move rfl ?_)
  refine rw_t 22 rfl rfl rfl (do_yieldQ [(34, .val (.int .i64 (c.First.getD u.toNat 0 + (i : Int)))), (2, .val (.int .i64 u)), (3, .ptr 9 0 0), (4, .ptr 10 0 0), (6, .ptr 11 0 0), (7, .val (.int .i64 0)), (8, .ptr 12 0 0)] hq1 rfl rfl rfl rfl rfl rfl (fun ρr2 wr2 lr2 hρ2 => ?_))
  -- region 7
  refine w_region ?_
  refine rw_t 9 rfl rfl rfl (do_assign rfl ?_)
  refine rw_nil ?_
  refine asg_done rfl ?_
  refine w_block ?_
  refine w_seq ?_
  have hd8 := h.hd (c.First.getD u.toNat 0 + (i : Int)).toNat (by omega)
  have hl8 := lowL_in (c := c) hp.hi (c.First.getD u.toNat 0) (m := 2 * c.N) (by omega) i
  -- region 8
  refine w_region ?_
  refine rw_t 35 rfl rfl rfl (do_fieldaddr rfl ?_)
  refine rw_t 36 rfl rfl rfl (do_load_box rfl rfl rfl ?_)
  refine rw_t 37 rfl rfl rfl (do_move rfl ?_)
  refine rw_t 38 rfl rfl rfl (do_ix0 rfl rfl rfl (by first | omega | (simp only [ls] <;> omega)) ?_)
  refine rw_t 39 rfl rfl rfl (do_load_arr rfl rfl (by first | omega | (simp only [ls] <;> omega)) rfl ?_)
  refine rw_t 40 rfl rfl rfl (do_bin rfl rfl rfl ?_)
  refine rw_nil ?_
  refine w_cond rfl (fun hc4 => ?_) (fun hc4 => ?_)
  all_goals try simp only [bs] at hc4
  · -- region 9
    refine w_draw mixed [0, 0, 2, 0, 8, 0, 56, 120, 254, 510] [1023, 2047] (by kernel_rfl) (by kernel_rfl) rfl rfl rfl (hle hρ2 rfl) ?_
    refine ra_q (j := 0) rfl rfl rfl rfl (do_load_box rfl rfl rfl ⟨rfl, rfl⟩) (by rfl) ?_
    refine ra_q (j := 1) rfl rfl rfl rfl (do_fieldaddr rfl ⟨rfl, rfl⟩) (by rfl) ?_
    refine ra_q (j := 2) rfl rfl rfl rfl (do_load_box rfl rfl rfl ⟨rfl, rfl⟩) (by rfl) ?_
    refine ra_q (j := 3) rfl rfl rfl rfl (do_fieldaddr rfl ⟨rfl, rfl⟩) (by rfl) ?_
    refine ra_q (j := 4) rfl rfl rfl rfl (do_load_box rfl rfl rfl ⟨rfl, rfl⟩) (by rfl) ?_
    refine ra_q (j := 5) rfl rfl rfl rfl (do_move rfl ⟨rfl, rfl⟩) (by rfl) ?_
    refine ra_q (j := 6) rfl rfl rfl rfl (do_ix0 rfl rfl rfl (by first | omega | (simp only [ls] <;> omega)) ⟨rfl, rfl⟩) (by rfl) ?_
    refine ra_q (j := 7) rfl rfl rfl rfl (do_load_arr rfl rfl (by first | omega | (simp only [ls] <;> omega)) rfl ⟨rfl, rfl⟩) (by rfl) ?_
    refine ra_q (j := 8) rfl rfl rfl rfl (do_ix0 rfl rfl rfl (by first | omega | (simp only [ls] <;> omega)) ⟨rfl, rfl⟩) (by rfl) ?_
    refine ra_q (j := 9) rfl rfl rfl rfl (do_load_arr rfl rfl (by first | omega | (simp only [ls] <;> omega)) rfl ⟨rfl, rfl⟩) (by rfl) ?_
    refine n_done ?_
    refine rw_t 51 rfl rfl rfl (do_min rfl rfl ?_)
    refine rw_u rfl rfl (n_store_box (f := 0) rfl rfl rfl (Nat.le_of_ble_eq_true rfl) rfl ?_)
    refine rw_nil ?_
    repeat (with_reducible first | refine bl_n ?_ | refine bl_r ?_ | refine nx_r ?_ | refine nx_e ?_ | refine bl_e rfl ?_)
    refine round_normal rfl ?_
    refine rw_t 23 rfl rfl rfl (do_not rfl ?_)
    refine rw_nil ?_
    refine w_cond rfl (fun hc5 => ?_) (fun hc5 => ?_)
    · exfalso; first | (cases hc5; done) | exact (hc5 trivial) | (try simp only [bs] at hc5; first | omega | (simp_all; done) | (simp_all; omega))
    refine w_skip ?_
    -- region 2
    refine w_region ?_
    refine rw_t 18 rfl rfl rfl (do_move rfl ?_)
    refine rw_t 19 rfl rfl rfl (do_add rfl rfl (by omega) ?_)
    refine rw_t 4 rfl rfl rfl (do_assign rfl ?_)
    refine rw_nil ?_
    refine ⟨i + 1, [0, 1, 2, 3, 4, 5, 6, 7, 8, 9, 10, 11, 12, 13, 14, 15], by dsimp only; omega, by omega, ⟨.inr ⟨_, rfl, .inl rfl⟩, .inr ⟨_, rfl, .inl rfl⟩, .inr ⟨_, rfl, .inl rfl⟩, .inr ⟨_, rfl, .inl rfl⟩, .inr ⟨_, rfl, .inl rfl⟩, .inr ⟨_, rfl, .inl rfl⟩, .inr ⟨_, rfl, .inl rfl⟩, .inr ⟨_, rfl, .inl rfl⟩, .inr ⟨_, rfl, .inl rfl⟩, .inr ⟨_, rfl, .inl rfl⟩, .inr ⟨_, rfl, .inl rfl⟩, .inr ⟨_, rfl, .inl rfl⟩, .inr ⟨_, rfl, .inl (box_congr (cons_congr (val_congr (by simp only [lowL]; rw [if_pos hc4])) ((rfl : ([] : List SV) = []))))⟩, .inr ⟨_, rfl, .inl rfl⟩, .inr ⟨_, rfl, .inl rfl⟩, .inr ⟨_, rfl, .inl rfl⟩, trivial⟩, rfl, pre_ok rfl, ⟨⟨_, rfl, rfl⟩, ⟨_, rfl, rfl⟩, ⟨_, rfl, rfl⟩, ⟨_, rfl, Eq.symm (val_congr (by omega))⟩, trivial⟩⟩
  · refine w_skip ?_
    repeat (with_reducible first | refine bl_n ?_ | refine bl_r ?_ | refine nx_r ?_ | refine nx_e ?_ | refine bl_e rfl ?_)
    refine round_normal rfl ?_
    refine rw_t 23 rfl rfl rfl (do_not rfl ?_)
    refine rw_nil ?_
    refine w_cond rfl (fun hc6 => ?_) (fun hc6 => ?_)
    · exfalso; first | (cases hc6; done) | exact (hc6 trivial) | (try simp only [bs] at hc6; first | omega | (simp_all; done) | (simp_all; omega))
    refine w_skip ?_
    -- region 2
    refine w_region ?_
    refine rw_t 18 rfl rfl rfl (do_move rfl ?_)
    refine rw_t 19 rfl rfl rfl (do_add rfl rfl (by omega) ?_)
    refine rw_t 4 rfl rfl rfl (do_assign rfl ?_)
    refine rw_nil ?_
    refine ⟨i + 1, [0, 1, 2, 3, 4, 5, 6, 7, 8, 9, 10, 11, 12, 13, 14, 15], by dsimp only; omega, by omega, ⟨.inr ⟨_, rfl, .inl rfl⟩, .inr ⟨_, rfl, .inl rfl⟩, .inr ⟨_, rfl, .inl rfl⟩, .inr ⟨_, rfl, .inl rfl⟩, .inr ⟨_, rfl, .inl rfl⟩, .inr ⟨_, rfl, .inl rfl⟩, .inr ⟨_, rfl, .inl rfl⟩, .inr ⟨_, rfl, .inl rfl⟩, .inr ⟨_, rfl, .inl rfl⟩, .inr ⟨_, rfl, .inl rfl⟩, .inr ⟨_, rfl, .inl rfl⟩, .inr ⟨_, rfl, .inl rfl⟩, .inr ⟨_, rfl, .inl (box_congr (cons_congr (val_congr (by simp only [lowL]; rw [if_neg hc4])) ((rfl : ([] : List SV) = []))))⟩, .inr ⟨_, rfl, .inl rfl⟩, .inr ⟨_, rfl, .inl rfl⟩, .inr ⟨_, rfl, .inl rfl⟩, trivial⟩, rfl, pre_ok rfl, ⟨⟨_, rfl, rfl⟩, ⟨_, rfl, rfl⟩, ⟨_, rfl, rfl⟩, ⟨_, rfl, Eq.symm (val_congr (by omega))⟩, trivial⟩⟩
end Go.Proofs

set_option linter.unusedVariables false
set_option linter.unusedSimpArgs false
namespace Go.Proofs
open Go Go.Sx Go.RowKit
def actQ (c : Csr) (p : Pre) (u : Int) : Bool := decide (activeP c p u)
def stuQ (c : Csr) (p : Pre) (u : Int) : Bool := decide (stuckP c p u)
def pusQ (c : Csr) (p : Pre) (a : Int) : Bool := decide (pushesP c p a)
def activeL (c : Csr) (p : Pre) : List Int := selK (actQ c p) c.N.toNat
def stuckL (c : Csr) (p : Pre) : List Int := selK (stuQ c p) c.N.toNat
/-- P7.4. -/
def pushL (c : Csr) (p : Pre) : List Int := selK (pusQ c p) c.Head.length
theorem selK_one {q : Int → Bool} {k : Nat} (h : q k = true) : selK q (k + 1) = selK q k ++ [(k : Int)] := by simp only [selK]; rw [if_pos h]
theorem selK_none {q : Int → Bool} {k : Nat} (h : ¬ q k = true) : selK q (k + 1) = selK q k := by simp only [selK]; rw [if_neg h]
-- f57 "acequia/pre.Active$1"
set_option maxHeartbeats 8000000 in
set_option synthInstance.maxHeartbeats 400000 in
set_option synthInstance.maxSize 2000 in
theorem t_sel1A (c : Csr) (p : Pre) (h : CsrT c) (hp : PreIn c p) (u : Int) (hu : 0 ≤ u ∧ u < c.N) : Tri Try.prog 57 [.val (.int .i64 u), .ptr 9 0 0, .ptr 10 0 0] [SO.ints false .i64 c.First, SO.ints false .i64 c.Head, SO.ints false .i64 c.Rev, SO.ints false .i64 c.Cap, SO.ints false .i64 c.Arc, SO.bools false c.Back, SO.ints false .i64 p.Res, SO.ints false .i64 p.Ex, SO.ints false .i64 p.H, .box [.val (.int .i64 c.N), .val (.int .i64 c.S), .val (.int .i64 c.T), .slc 0 0 c.First.length none, .slc 1 0 c.Head.length none, .slc 2 0 c.Rev.length none, .slc 3 0 c.Cap.length none, .slc 4 0 c.Arc.length none, .slc 5 0 c.Back.length none], .box [.slc 6 0 p.Res.length none, .slc 7 0 p.Ex.length none, .slc 8 0 p.H.length none]] (fun s H => s = .val (.bool (decide (activeP c p u))) ∧ H = [SO.ints false .i64 c.First, SO.ints false .i64 c.Head, SO.ints false .i64 c.Rev, SO.ints false .i64 c.Cap, SO.ints false .i64 c.Arc, SO.bools false c.Back, SO.ints false .i64 p.Res, SO.ints false .i64 p.Ex, SO.ints false .i64 p.H, .box [.val (.int .i64 c.N), .val (.int .i64 c.S), .val (.int .i64 c.T), .slc 0 0 c.First.length none, .slc 1 0 c.Head.length none, .slc 2 0 c.Rev.length none, .slc 3 0 c.Cap.length none, .slc 4 0 c.Arc.length none, .slc 5 0 c.Back.length none], .box [.slc 6 0 p.Res.length none, .slc 7 0 p.Ex.length none, .slc 8 0 p.H.length none]]) := by
  refine tri_of_w (fn := Try.f57) Try.func57 rfl (by simp [Try.f57]) ?_
  intro ρ w hρ
  refine w_seq ?_
  have hn := h.n
  have hf := h.first
  have hhd := h.head
  have hrl := h.rev
  have hcl := h.cap
  have hal := h.arc
  have hbl := h.back
  have hr := hp.res
  have hx := hp.ex
  have hh := hp.h
  -- region 0
  refine w_region ?_
  refine rw_t 4 rfl rfl rfl (do_assign rfl ?_)
  refine rw_nil ?_
  refine w_seq ?_
  -- region 1
  refine w_region ?_
  refine rw_t 5 rfl rfl rfl (n_load_boxagg [_, _, _, _, _, _, _, _, _] rfl rfl (Nat.le_of_ble_eq_true rfl) rfl ?_)
  refine rw_t 6 rfl rfl rfl (n_load_boxagg [_, _, _] rfl rfl (Nat.le_of_ble_eq_true rfl) rfl ?_)
  refine rw_t 7 rfl rfl rfl (do_move rfl ?_)
  refine rw_t 8 rfl rfl rfl (do_callR (X' := .val (.bool (decide (activeP c p u)))) rfl rfl (t_active (c := c) (p := p) (u := u) (h) (hp) (hu)) [0, 1, 2, 3, 4, 5, 6, 7, 8] ⟨.inr ⟨_, rfl, srv⟩, .inr ⟨_, rfl, srv⟩, .inr ⟨_, rfl, srv⟩, .inr ⟨_, rfl, srv⟩, .inr ⟨_, rfl, srv⟩, .inr ⟨_, rfl, srv⟩, .inr ⟨_, rfl, srv⟩, .inr ⟨_, rfl, srv⟩, .inr ⟨_, rfl, srv⟩, trivial⟩ rfl rfl rfl ?_)
  refine rw_t 4 rfl rfl rfl (do_assign rfl ?_)
  refine rw_nil ?_
  refine w_ret ?_
  exact ret_eq (.inl rfl) (.cons (res_tmp rfl) .nil) [0, 1, 2, 3, 4, 5, 6, 7, 8, 9, 10] (rfl) ⟨.inr ⟨_, rfl, .inl rfl⟩, .inr ⟨_, rfl, .inl rfl⟩, .inr ⟨_, rfl, .inl rfl⟩, .inr ⟨_, rfl, .inl rfl⟩, .inr ⟨_, rfl, .inl rfl⟩, .inr ⟨_, rfl, .inl rfl⟩, .inr ⟨_, rfl, .inl rfl⟩, .inr ⟨_, rfl, .inl rfl⟩, .inr ⟨_, rfl, .inl rfl⟩, .inr ⟨_, rfl, .inl rfl⟩, .inr ⟨_, rfl, .inl rfl⟩, trivial⟩ rfl (pre_ok rfl)
-- f53 "acequia/pre.all"
set_option maxHeartbeats 8000000 in
set_option synthInstance.maxHeartbeats 400000 in
set_option synthInstance.maxSize 2000 in
theorem t_allA (c : Csr) (p : Pre) (h : CsrT c) (hp : PreIn c p) : Tri Try.prog 53 [.agg [.val (.int .i64 c.N), .val (.int .i64 c.S), .val (.int .i64 c.T), .slc 0 0 c.First.length none, .slc 1 0 c.Head.length none, .slc 2 0 c.Rev.length none, .slc 3 0 c.Cap.length none, .slc 4 0 c.Arc.length none, .slc 5 0 c.Back.length none], .func 57 [] [.ptr 9 0 0, .ptr 10 0 0]] [SO.ints false .i64 c.First, SO.ints false .i64 c.Head, SO.ints false .i64 c.Rev, SO.ints false .i64 c.Cap, SO.ints false .i64 c.Arc, SO.bools false c.Back, SO.ints false .i64 p.Res, SO.ints false .i64 p.Ex, SO.ints false .i64 p.H, .box [.val (.int .i64 c.N), .val (.int .i64 c.S), .val (.int .i64 c.T), .slc 0 0 c.First.length none, .slc 1 0 c.Head.length none, .slc 2 0 c.Rev.length none, .slc 3 0 c.Cap.length none, .slc 4 0 c.Arc.length none, .slc 5 0 c.Back.length none], .box [.slc 6 0 p.Res.length none, .slc 7 0 p.Ex.length none, .slc 8 0 p.H.length none]] (fun s H => s = .slc 11 0 ((selK (actQ c p) c.N.toNat).length) none ∧ H = [SO.ints false .i64 c.First, SO.ints false .i64 c.Head, SO.ints false .i64 c.Rev, SO.ints false .i64 c.Cap, SO.ints false .i64 c.Arc, SO.bools false c.Back, SO.ints false .i64 p.Res, SO.ints false .i64 p.Ex, SO.ints false .i64 p.H, .box [.val (.int .i64 c.N), .val (.int .i64 c.S), .val (.int .i64 c.T), .slc 0 0 c.First.length none, .slc 1 0 c.Head.length none, .slc 2 0 c.Rev.length none, .slc 3 0 c.Cap.length none, .slc 4 0 c.Arc.length none, .slc 5 0 c.Back.length none], .box [.slc 6 0 p.Res.length none, .slc 7 0 p.Ex.length none, .slc 8 0 p.H.length none], SO.ints true .i64 (selK (actQ c p) c.N.toNat)]) := by
  refine tri_of_w (fn := Try.f53) Try.func53 rfl (by simp [Try.f53]) ?_
  intro ρ w hρ
  refine w_seq ?_
  have hn := h.n
  have hf := h.first
  have hhd := h.head
  have hrl := h.rev
  have hcl := h.cap
  have hal := h.arc
  have hbl := h.back
  have hr := hp.res
  have hx := hp.ex
  have hh := hp.h
  -- region 0
  refine w_region ?_
  refine rw_t 2 rfl rfl rfl (n_box_agg (n := 11) rfl rfl ?_)
  refine rw_t 4 rfl rfl rfl (do_assign rfl ?_)
  refine rw_nil ?_
  refine w_seq ?_
  -- region 1
  refine w_region ?_
  refine rw_t 5 rfl rfl rfl (do_assign rfl ?_)
  refine rw_nil ?_
  refine w_seq ?_
  refine w_seq ?_
  -- region 2
  refine w_region ?_
  refine rw_t 7 rfl rfl rfl (do_fieldaddr rfl ?_)
  refine rw_t 8 rfl rfl rfl (do_load_box rfl rfl rfl ?_)
  refine rw_t 9 rfl rfl rfl (do_move rfl ?_)
  refine rw_nil ?_
  refine w_block ?_
  refine n_ghost Int 1 (encI .i64) 0 (fun _ => rfl) (fun _ _ h => by simp [encI] at h; subst h; rfl) ?_
  refine w_nilE 5 12 0 rfl ?_
  refine w_loopS (ι := Nat) (fun i => [(1, .func 57 [] [.ptr 9 0 0, .ptr 10 0 0]), (4, .val (.slice none 0 0)), (5, .slc 12 0 ((selK (actQ c p) i).length) none), (8, .val (.int .i64 c.N)), (9, .val (.int .i64 ((i : Nat) : Int)))]) (fun i => [SO.ints false .i64 c.First, SO.ints false .i64 c.Head, SO.ints false .i64 c.Rev, SO.ints false .i64 c.Cap, SO.ints false .i64 c.Arc, SO.bools false c.Back, SO.ints false .i64 p.Res, SO.ints false .i64 p.Ex, SO.ints false .i64 p.H, .box [.val (.int .i64 c.N), .val (.int .i64 c.S), .val (.int .i64 c.T), .slc 0 0 c.First.length none, .slc 1 0 c.Head.length none, .slc 2 0 c.Rev.length none, .slc 3 0 c.Cap.length none, .slc 4 0 c.Arc.length none, .slc 5 0 c.Back.length none], .box [.slc 6 0 p.Res.length none, .slc 7 0 p.Ex.length none, .slc 8 0 p.H.length none], .box [.val (.int .i64 c.N), .val (.int .i64 c.S), .val (.int .i64 c.T), .slc 0 0 c.First.length none, .slc 1 0 c.Head.length none, .slc 2 0 c.Rev.length none, .slc 3 0 c.Cap.length none, .slc 4 0 c.Arc.length none, .slc 5 0 c.Back.length none], SO.ints true .i64 (selK (actQ c p) i)]) (fun i => c.N.toNat - i) (fun i => i ≤ c.N.toNat) (0) [0, 1, 2, 3, 4, 5, 6, 7, 8, 9, 10, 11, 12] (by simp) ⟨.inr ⟨_, rfl, .inl rfl⟩, .inr ⟨_, rfl, .inl rfl⟩, .inr ⟨_, rfl, .inl rfl⟩, .inr ⟨_, rfl, .inl rfl⟩, .inr ⟨_, rfl, .inl rfl⟩, .inr ⟨_, rfl, .inl rfl⟩, .inr ⟨_, rfl, .inl rfl⟩, .inr ⟨_, rfl, .inl rfl⟩, .inr ⟨_, rfl, .inl rfl⟩, .inr ⟨_, rfl, .inl rfl⟩, .inr ⟨_, rfl, .inl rfl⟩, .inr ⟨_, rfl, .inl rfl⟩, .inr ⟨_, rfl, .inl rfl⟩, trivial⟩ rfl (pre_ok rfl) hρ ⟨⟨_, rfl, rfl⟩, ⟨_, rfl, rfl⟩, ⟨_, rfl, rfl⟩, ⟨_, rfl, rfl⟩, ⟨_, rfl, rfl⟩, trivial⟩ ?_
  intro i hi
  have hsl := selK_len (actQ c p) i
  refine w_seq ?_
  -- region 3
  refine w_region ?_
  refine rw_t 10 rfl rfl rfl (do_bin rfl rfl rfl ?_)
  refine rw_nil ?_
  refine w_seq ?_
  refine w_cond rfl (fun hc1 => ?_) (fun hc1 => ?_)
  all_goals try simp only [bs] at hc1
  rotate_left
  · refine w_exit ?_ -- exit 0
    refine w_seq ?_
    -- region 8
    refine w_region ?_
    refine rw_t 20 rfl rfl rfl (do_move rfl ?_)
    refine rw_t 4 rfl rfl rfl (do_assign rfl ?_)
    refine rw_nil ?_
    have hi' : i = c.N.toNat := by omega
    subst hi'
    refine w_ret ?_
    -- RESULT .slc 12 0 ((selK (actQ c p) i).length) none, WANTED .slc 11 0 ((selK (actQ c p) c.N.toNat).length) none
    exact ret_eq (.inl rfl) (.cons (res_tmp rfl) .nil) [0, 1, 2, 3, 4, 5, 6, 7, 8, 9, 10, 12] (rfl) ⟨.inr ⟨_, rfl, .inl rfl⟩, .inr ⟨_, rfl, .inl rfl⟩, .inr ⟨_, rfl, .inl rfl⟩, .inr ⟨_, rfl, .inl rfl⟩, .inr ⟨_, rfl, .inl rfl⟩, .inr ⟨_, rfl, .inl rfl⟩, .inr ⟨_, rfl, .inl rfl⟩, .inr ⟨_, rfl, .inl rfl⟩, .inr ⟨_, rfl, .inl rfl⟩, .inr ⟨_, rfl, .inl rfl⟩, .inr ⟨_, rfl, .inl rfl⟩, .inr ⟨_, rfl, .inl rfl⟩, trivial⟩ rfl (pre_ok rfl)
  refine w_skip ?_
  refine w_seq ?_
  refine w_block ?_
  refine w_seq ?_
  -- region 4
  refine w_region ?_
  refine rw_t 11 rfl rfl rfl (do_move rfl ?_)
  refine rw_t 6 rfl rfl rfl (do_assign rfl ?_)
  refine rw_nil ?_
  refine w_seq ?_
  -- region 5
  refine w_region ?_
  refine rw_t 12 rfl rfl rfl (do_move rfl ?_)
  refine rw_t 13 rfl rfl rfl (do_move rfl ?_)
  refine rw_t 14 rfl rfl rfl (n_callW (X' := .val (.bool (decide (activeP c p ((i : Nat) : Int))))) (H' := [SO.ints false .i64 c.First, SO.ints false .i64 c.Head, SO.ints false .i64 c.Rev, SO.ints false .i64 c.Cap, SO.ints false .i64 c.Arc, SO.bools false c.Back, SO.ints false .i64 p.Res, SO.ints false .i64 p.Ex, SO.ints false .i64 p.H, .box [.val (.int .i64 c.N), .val (.int .i64 c.S), .val (.int .i64 c.T), .slc 0 0 c.First.length none, .slc 1 0 c.Head.length none, .slc 2 0 c.Rev.length none, .slc 3 0 c.Cap.length none, .slc 4 0 c.Arc.length none, .slc 5 0 c.Back.length none], .box [.slc 6 0 p.Res.length none, .slc 7 0 p.Ex.length none, .slc 8 0 p.H.length none], .box [.val (.int .i64 c.N), .val (.int .i64 c.S), .val (.int .i64 c.T), .slc 0 0 c.First.length none, .slc 1 0 c.Head.length none, .slc 2 0 c.Rev.length none, .slc 3 0 c.Cap.length none, .slc 4 0 c.Arc.length none, .slc 5 0 c.Back.length none], SO.ints true .i64 (selK (actQ c p) i)]) rfl rfl (t_sel1A (c := c) (p := p) (u := ((i : Nat) : Int)) (h) (hp) (by omega)) [0, 1, 2, 3, 4, 5, 6, 7, 8, 9, 10] ⟨.inr ⟨_, rfl, srv⟩, .inr ⟨_, rfl, srv⟩, .inr ⟨_, rfl, srv⟩, .inr ⟨_, rfl, srv⟩, .inr ⟨_, rfl, srv⟩, .inr ⟨_, rfl, srv⟩, .inr ⟨_, rfl, srv⟩, .inr ⟨_, rfl, srv⟩, .inr ⟨_, rfl, srv⟩, .inr ⟨_, rfl, .inl rfl⟩, .inr ⟨_, rfl, .inl rfl⟩, trivial⟩ rfl rfl ⟨fun h => (by cases h), ⟨fun h => (by cases h), ⟨fun h => (by cases h), ⟨fun h => (by cases h), ⟨fun h => (by cases h), ⟨fun h => (by cases h), ⟨fun h => (by cases h), ⟨fun h => (by cases h), ⟨fun h => (by cases h), ⟨fun h => .inl rfl, ⟨fun h => .inl rfl, (fun y hy => by simp at hy)⟩⟩⟩⟩⟩⟩⟩⟩⟩⟩⟩ rfl rfl ?_)
  refine rw_nil ?_
  refine w_cond rfl (fun hc2 => ?_) (fun hc2 => ?_)
  all_goals try simp only [bs] at hc2
  · -- region 6
    refine w_region ?_
    refine rw_t 15 rfl rfl rfl (do_move rfl ?_)
    refine rw_t 16 rfl rfl rfl (do_move rfl ?_)
    refine rw_t 17 rfl rfl rfl (n_bs (nm := 13) Int (encI .i64) 0 [((i : Nat) : Int)] rfl rfl rfl rfl rfl (fun _ => rfl) (fun _ _ h => by simp [encI] at h; subst h; rfl) rfl ?_)
    refine rw_t 18 rfl rfl rfl (n_app_own (nm := 14) rfl rfl rfl rfl rfl (by first | omega | (simp only [ls] <;> omega)) (by first | omega | (simp only [ls] <;> omega)) (by omega) (by omega) rfl ?_)
    refine rw_t 5 rfl rfl rfl (do_assign rfl ?_)
    refine rw_nil ?_
    -- region 7
    refine w_region ?_
    refine rw_t 19 rfl rfl rfl (do_add rfl rfl (by omega) ?_)
    refine rw_t 9 rfl rfl rfl (do_move rfl ?_)
    refine rw_nil ?_
    have hq : (actQ c p) i = true := decide_eq_true hc2
    refine ⟨i + 1, [0, 1, 2, 3, 4, 5, 6, 7, 8, 9, 10, 11, 14], by dsimp only; omega, by omega, ⟨.inr ⟨_, rfl, .inl rfl⟩, .inr ⟨_, rfl, .inl rfl⟩, .inr ⟨_, rfl, .inl rfl⟩, .inr ⟨_, rfl, .inl rfl⟩, .inr ⟨_, rfl, .inl rfl⟩, .inr ⟨_, rfl, .inl rfl⟩, .inr ⟨_, rfl, .inl rfl⟩, .inr ⟨_, rfl, .inl rfl⟩, .inr ⟨_, rfl, .inl rfl⟩, .inr ⟨_, rfl, .inl rfl⟩, .inr ⟨_, rfl, .inl rfl⟩, .inr ⟨_, rfl, .inl rfl⟩, .inr ⟨_, rfl, .inl (congrArg (SO.ints true .i64) (selK_one hq))⟩, trivial⟩, rfl, pre_ok rfl, ⟨⟨_, rfl, rfl⟩, ⟨_, rfl, rfl⟩, ⟨_, rfl, (congrArg (fun n => SV.slc 14 0 n none) (by rw [selK_one hq, List.length_append]; rfl : (selK (actQ c p) i).length + 1 = (selK (actQ c p) (i + 1)).length)).trans rfl⟩, ⟨_, rfl, rfl⟩, ⟨_, rfl, rfl⟩, trivial⟩⟩
  · refine w_skip ?_
    -- region 7
    refine w_region ?_
    refine rw_t 19 rfl rfl rfl (do_add rfl rfl (by omega) ?_)
    refine rw_t 9 rfl rfl rfl (do_move rfl ?_)
    refine rw_nil ?_
    have hq : ¬ (actQ c p) i = true := fun q => hc2 (of_decide_eq_true q)
    refine ⟨i + 1, [0, 1, 2, 3, 4, 5, 6, 7, 8, 9, 10, 11, 12], by dsimp only; omega, by omega, ⟨.inr ⟨_, rfl, .inl rfl⟩, .inr ⟨_, rfl, .inl rfl⟩, .inr ⟨_, rfl, .inl rfl⟩, .inr ⟨_, rfl, .inl rfl⟩, .inr ⟨_, rfl, .inl rfl⟩, .inr ⟨_, rfl, .inl rfl⟩, .inr ⟨_, rfl, .inl rfl⟩, .inr ⟨_, rfl, .inl rfl⟩, .inr ⟨_, rfl, .inl rfl⟩, .inr ⟨_, rfl, .inl rfl⟩, .inr ⟨_, rfl, .inl rfl⟩, .inr ⟨_, rfl, .inl rfl⟩, .inr ⟨_, rfl, .inl (congrArg (SO.ints true .i64) (selK_none hq))⟩, trivial⟩, rfl, pre_ok rfl, ⟨⟨_, rfl, rfl⟩, ⟨_, rfl, rfl⟩, ⟨_, rfl, (congrArg (fun n => SV.slc 12 0 n none) (by rw [selK_none hq] : (selK (actQ c p) i).length = (selK (actQ c p) (i + 1)).length)).trans rfl⟩, ⟨_, rfl, rfl⟩, ⟨_, rfl, rfl⟩, trivial⟩⟩
-- f54 "acequia/pre.May$1"
set_option maxHeartbeats 8000000 in
set_option synthInstance.maxHeartbeats 400000 in
set_option synthInstance.maxSize 2000 in
theorem t_sel1M (c : Csr) (p : Pre) (h : CsrT c) (hp : PreIn c p) (u : Int) (hu : 0 ≤ u ∧ u < c.N) : Tri Try.prog 54 [.val (.int .i64 u), .ptr 9 0 0, .ptr 10 0 0] [SO.ints false .i64 c.First, SO.ints false .i64 c.Head, SO.ints false .i64 c.Rev, SO.ints false .i64 c.Cap, SO.ints false .i64 c.Arc, SO.bools false c.Back, SO.ints false .i64 p.Res, SO.ints false .i64 p.Ex, SO.ints false .i64 p.H, .box [.val (.int .i64 c.N), .val (.int .i64 c.S), .val (.int .i64 c.T), .slc 0 0 c.First.length none, .slc 1 0 c.Head.length none, .slc 2 0 c.Rev.length none, .slc 3 0 c.Cap.length none, .slc 4 0 c.Arc.length none, .slc 5 0 c.Back.length none], .box [.slc 6 0 p.Res.length none, .slc 7 0 p.Ex.length none, .slc 8 0 p.H.length none]] (fun s H => s = .val (.bool (decide (stuckP c p u))) ∧ H = [SO.ints false .i64 c.First, SO.ints false .i64 c.Head, SO.ints false .i64 c.Rev, SO.ints false .i64 c.Cap, SO.ints false .i64 c.Arc, SO.bools false c.Back, SO.ints false .i64 p.Res, SO.ints false .i64 p.Ex, SO.ints false .i64 p.H, .box [.val (.int .i64 c.N), .val (.int .i64 c.S), .val (.int .i64 c.T), .slc 0 0 c.First.length none, .slc 1 0 c.Head.length none, .slc 2 0 c.Rev.length none, .slc 3 0 c.Cap.length none, .slc 4 0 c.Arc.length none, .slc 5 0 c.Back.length none], .box [.slc 6 0 p.Res.length none, .slc 7 0 p.Ex.length none, .slc 8 0 p.H.length none]]) := by
  refine tri_of_w (fn := Try.f54) Try.func54 rfl (by simp [Try.f54]) ?_
  intro ρ w hρ
  refine w_seq ?_
  have hn := h.n
  have hf := h.first
  have hhd := h.head
  have hrl := h.rev
  have hcl := h.cap
  have hal := h.arc
  have hbl := h.back
  have hr := hp.res
  have hx := hp.ex
  have hh := hp.h
  -- region 0
  refine w_region ?_
  refine rw_t 4 rfl rfl rfl (do_assign rfl ?_)
  refine rw_nil ?_
  refine w_seq ?_
  -- region 1
  refine w_region ?_
  refine rw_t 5 rfl rfl rfl (n_load_boxagg [_, _, _, _, _, _, _, _, _] rfl rfl (Nat.le_of_ble_eq_true rfl) rfl ?_)
  refine rw_t 6 rfl rfl rfl (n_load_boxagg [_, _, _] rfl rfl (Nat.le_of_ble_eq_true rfl) rfl ?_)
  refine rw_t 7 rfl rfl rfl (do_move rfl ?_)
  refine rw_t 8 rfl rfl rfl (do_callR (X' := .val (.bool (decide (stuckP c p u)))) rfl rfl (t_stuck (c := c) (p := p) (u := u) (h) (hp) (hu)) [0, 1, 2, 3, 4, 5, 6, 7, 8] ⟨.inr ⟨_, rfl, srv⟩, .inr ⟨_, rfl, srv⟩, .inr ⟨_, rfl, srv⟩, .inr ⟨_, rfl, srv⟩, .inr ⟨_, rfl, srv⟩, .inr ⟨_, rfl, srv⟩, .inr ⟨_, rfl, srv⟩, .inr ⟨_, rfl, srv⟩, .inr ⟨_, rfl, srv⟩, trivial⟩ rfl rfl rfl ?_)
  refine rw_t 4 rfl rfl rfl (do_assign rfl ?_)
  refine rw_nil ?_
  refine w_ret ?_
  exact ret_eq (.inl rfl) (.cons (res_tmp rfl) .nil) [0, 1, 2, 3, 4, 5, 6, 7, 8, 9, 10] (rfl) ⟨.inr ⟨_, rfl, .inl rfl⟩, .inr ⟨_, rfl, .inl rfl⟩, .inr ⟨_, rfl, .inl rfl⟩, .inr ⟨_, rfl, .inl rfl⟩, .inr ⟨_, rfl, .inl rfl⟩, .inr ⟨_, rfl, .inl rfl⟩, .inr ⟨_, rfl, .inl rfl⟩, .inr ⟨_, rfl, .inl rfl⟩, .inr ⟨_, rfl, .inl rfl⟩, .inr ⟨_, rfl, .inl rfl⟩, .inr ⟨_, rfl, .inl rfl⟩, trivial⟩ rfl (pre_ok rfl)
-- f53 "acequia/pre.all"
set_option maxHeartbeats 8000000 in
set_option synthInstance.maxHeartbeats 400000 in
set_option synthInstance.maxSize 2000 in
theorem t_allM (c : Csr) (p : Pre) (h : CsrT c) (hp : PreIn c p) : Tri Try.prog 53 [.agg [.val (.int .i64 c.N), .val (.int .i64 c.S), .val (.int .i64 c.T), .slc 0 0 c.First.length none, .slc 1 0 c.Head.length none, .slc 2 0 c.Rev.length none, .slc 3 0 c.Cap.length none, .slc 4 0 c.Arc.length none, .slc 5 0 c.Back.length none], .func 54 [] [.ptr 9 0 0, .ptr 10 0 0]] [SO.ints false .i64 c.First, SO.ints false .i64 c.Head, SO.ints false .i64 c.Rev, SO.ints false .i64 c.Cap, SO.ints false .i64 c.Arc, SO.bools false c.Back, SO.ints false .i64 p.Res, SO.ints false .i64 p.Ex, SO.ints false .i64 p.H, .box [.val (.int .i64 c.N), .val (.int .i64 c.S), .val (.int .i64 c.T), .slc 0 0 c.First.length none, .slc 1 0 c.Head.length none, .slc 2 0 c.Rev.length none, .slc 3 0 c.Cap.length none, .slc 4 0 c.Arc.length none, .slc 5 0 c.Back.length none], .box [.slc 6 0 p.Res.length none, .slc 7 0 p.Ex.length none, .slc 8 0 p.H.length none]] (fun s H => s = .slc 11 0 ((selK (stuQ c p) c.N.toNat).length) none ∧ H = [SO.ints false .i64 c.First, SO.ints false .i64 c.Head, SO.ints false .i64 c.Rev, SO.ints false .i64 c.Cap, SO.ints false .i64 c.Arc, SO.bools false c.Back, SO.ints false .i64 p.Res, SO.ints false .i64 p.Ex, SO.ints false .i64 p.H, .box [.val (.int .i64 c.N), .val (.int .i64 c.S), .val (.int .i64 c.T), .slc 0 0 c.First.length none, .slc 1 0 c.Head.length none, .slc 2 0 c.Rev.length none, .slc 3 0 c.Cap.length none, .slc 4 0 c.Arc.length none, .slc 5 0 c.Back.length none], .box [.slc 6 0 p.Res.length none, .slc 7 0 p.Ex.length none, .slc 8 0 p.H.length none], SO.ints true .i64 (selK (stuQ c p) c.N.toNat)]) := by
  refine tri_of_w (fn := Try.f53) Try.func53 rfl (by simp [Try.f53]) ?_
  intro ρ w hρ
  refine w_seq ?_
  have hn := h.n
  have hf := h.first
  have hhd := h.head
  have hrl := h.rev
  have hcl := h.cap
  have hal := h.arc
  have hbl := h.back
  have hr := hp.res
  have hx := hp.ex
  have hh := hp.h
  -- region 0
  refine w_region ?_
  refine rw_t 2 rfl rfl rfl (n_box_agg (n := 11) rfl rfl ?_)
  refine rw_t 4 rfl rfl rfl (do_assign rfl ?_)
  refine rw_nil ?_
  refine w_seq ?_
  -- region 1
  refine w_region ?_
  refine rw_t 5 rfl rfl rfl (do_assign rfl ?_)
  refine rw_nil ?_
  refine w_seq ?_
  refine w_seq ?_
  -- region 2
  refine w_region ?_
  refine rw_t 7 rfl rfl rfl (do_fieldaddr rfl ?_)
  refine rw_t 8 rfl rfl rfl (do_load_box rfl rfl rfl ?_)
  refine rw_t 9 rfl rfl rfl (do_move rfl ?_)
  refine rw_nil ?_
  refine w_block ?_
  refine n_ghost Int 1 (encI .i64) 0 (fun _ => rfl) (fun _ _ h => by simp [encI] at h; subst h; rfl) ?_
  refine w_nilE 5 12 0 rfl ?_
  refine w_loopS (ι := Nat) (fun i => [(1, .func 54 [] [.ptr 9 0 0, .ptr 10 0 0]), (4, .val (.slice none 0 0)), (5, .slc 12 0 ((selK (stuQ c p) i).length) none), (8, .val (.int .i64 c.N)), (9, .val (.int .i64 ((i : Nat) : Int)))]) (fun i => [SO.ints false .i64 c.First, SO.ints false .i64 c.Head, SO.ints false .i64 c.Rev, SO.ints false .i64 c.Cap, SO.ints false .i64 c.Arc, SO.bools false c.Back, SO.ints false .i64 p.Res, SO.ints false .i64 p.Ex, SO.ints false .i64 p.H, .box [.val (.int .i64 c.N), .val (.int .i64 c.S), .val (.int .i64 c.T), .slc 0 0 c.First.length none, .slc 1 0 c.Head.length none, .slc 2 0 c.Rev.length none, .slc 3 0 c.Cap.length none, .slc 4 0 c.Arc.length none, .slc 5 0 c.Back.length none], .box [.slc 6 0 p.Res.length none, .slc 7 0 p.Ex.length none, .slc 8 0 p.H.length none], .box [.val (.int .i64 c.N), .val (.int .i64 c.S), .val (.int .i64 c.T), .slc 0 0 c.First.length none, .slc 1 0 c.Head.length none, .slc 2 0 c.Rev.length none, .slc 3 0 c.Cap.length none, .slc 4 0 c.Arc.length none, .slc 5 0 c.Back.length none], SO.ints true .i64 (selK (stuQ c p) i)]) (fun i => c.N.toNat - i) (fun i => i ≤ c.N.toNat) (0) [0, 1, 2, 3, 4, 5, 6, 7, 8, 9, 10, 11, 12] (by simp) ⟨.inr ⟨_, rfl, .inl rfl⟩, .inr ⟨_, rfl, .inl rfl⟩, .inr ⟨_, rfl, .inl rfl⟩, .inr ⟨_, rfl, .inl rfl⟩, .inr ⟨_, rfl, .inl rfl⟩, .inr ⟨_, rfl, .inl rfl⟩, .inr ⟨_, rfl, .inl rfl⟩, .inr ⟨_, rfl, .inl rfl⟩, .inr ⟨_, rfl, .inl rfl⟩, .inr ⟨_, rfl, .inl rfl⟩, .inr ⟨_, rfl, .inl rfl⟩, .inr ⟨_, rfl, .inl rfl⟩, .inr ⟨_, rfl, .inl rfl⟩, trivial⟩ rfl (pre_ok rfl) hρ ⟨⟨_, rfl, rfl⟩, ⟨_, rfl, rfl⟩, ⟨_, rfl, rfl⟩, ⟨_, rfl, rfl⟩, ⟨_, rfl, rfl⟩, trivial⟩ ?_
  intro i hi
  have hsl := selK_len (stuQ c p) i
  refine w_seq ?_
  -- region 3
  refine w_region ?_
  refine rw_t 10 rfl rfl rfl (do_bin rfl rfl rfl ?_)
  refine rw_nil ?_
  refine w_seq ?_
  refine w_cond rfl (fun hc1 => ?_) (fun hc1 => ?_)
  all_goals try simp only [bs] at hc1
  rotate_left
  · refine w_exit ?_ -- exit 0
    refine w_seq ?_
    -- region 8
    refine w_region ?_
    refine rw_t 20 rfl rfl rfl (do_move rfl ?_)
    refine rw_t 4 rfl rfl rfl (do_assign rfl ?_)
    refine rw_nil ?_
    have hi' : i = c.N.toNat := by omega
    subst hi'
    refine w_ret ?_
    -- RESULT .slc 12 0 ((selK (stuQ c p) i).length) none, WANTED .slc 11 0 ((selK (stuQ c p) c.N.toNat).length) none
    exact ret_eq (.inl rfl) (.cons (res_tmp rfl) .nil) [0, 1, 2, 3, 4, 5, 6, 7, 8, 9, 10, 12] (rfl) ⟨.inr ⟨_, rfl, .inl rfl⟩, .inr ⟨_, rfl, .inl rfl⟩, .inr ⟨_, rfl, .inl rfl⟩, .inr ⟨_, rfl, .inl rfl⟩, .inr ⟨_, rfl, .inl rfl⟩, .inr ⟨_, rfl, .inl rfl⟩, .inr ⟨_, rfl, .inl rfl⟩, .inr ⟨_, rfl, .inl rfl⟩, .inr ⟨_, rfl, .inl rfl⟩, .inr ⟨_, rfl, .inl rfl⟩, .inr ⟨_, rfl, .inl rfl⟩, .inr ⟨_, rfl, .inl rfl⟩, trivial⟩ rfl (pre_ok rfl)
  refine w_skip ?_
  refine w_seq ?_
  refine w_block ?_
  refine w_seq ?_
  -- region 4
  refine w_region ?_
  refine rw_t 11 rfl rfl rfl (do_move rfl ?_)
  refine rw_t 6 rfl rfl rfl (do_assign rfl ?_)
  refine rw_nil ?_
  refine w_seq ?_
  -- region 5
  refine w_region ?_
  refine rw_t 12 rfl rfl rfl (do_move rfl ?_)
  refine rw_t 13 rfl rfl rfl (do_move rfl ?_)
  refine rw_t 14 rfl rfl rfl (n_callW (X' := .val (.bool (decide (stuckP c p ((i : Nat) : Int))))) (H' := [SO.ints false .i64 c.First, SO.ints false .i64 c.Head, SO.ints false .i64 c.Rev, SO.ints false .i64 c.Cap, SO.ints false .i64 c.Arc, SO.bools false c.Back, SO.ints false .i64 p.Res, SO.ints false .i64 p.Ex, SO.ints false .i64 p.H, .box [.val (.int .i64 c.N), .val (.int .i64 c.S), .val (.int .i64 c.T), .slc 0 0 c.First.length none, .slc 1 0 c.Head.length none, .slc 2 0 c.Rev.length none, .slc 3 0 c.Cap.length none, .slc 4 0 c.Arc.length none, .slc 5 0 c.Back.length none], .box [.slc 6 0 p.Res.length none, .slc 7 0 p.Ex.length none, .slc 8 0 p.H.length none], .box [.val (.int .i64 c.N), .val (.int .i64 c.S), .val (.int .i64 c.T), .slc 0 0 c.First.length none, .slc 1 0 c.Head.length none, .slc 2 0 c.Rev.length none, .slc 3 0 c.Cap.length none, .slc 4 0 c.Arc.length none, .slc 5 0 c.Back.length none], SO.ints true .i64 (selK (stuQ c p) i)]) rfl rfl (t_sel1M (c := c) (p := p) (u := ((i : Nat) : Int)) (h) (hp) (by omega)) [0, 1, 2, 3, 4, 5, 6, 7, 8, 9, 10] ⟨.inr ⟨_, rfl, srv⟩, .inr ⟨_, rfl, srv⟩, .inr ⟨_, rfl, srv⟩, .inr ⟨_, rfl, srv⟩, .inr ⟨_, rfl, srv⟩, .inr ⟨_, rfl, srv⟩, .inr ⟨_, rfl, srv⟩, .inr ⟨_, rfl, srv⟩, .inr ⟨_, rfl, srv⟩, .inr ⟨_, rfl, .inl rfl⟩, .inr ⟨_, rfl, .inl rfl⟩, trivial⟩ rfl rfl ⟨fun h => (by cases h), ⟨fun h => (by cases h), ⟨fun h => (by cases h), ⟨fun h => (by cases h), ⟨fun h => (by cases h), ⟨fun h => (by cases h), ⟨fun h => (by cases h), ⟨fun h => (by cases h), ⟨fun h => (by cases h), ⟨fun h => .inl rfl, ⟨fun h => .inl rfl, (fun y hy => by simp at hy)⟩⟩⟩⟩⟩⟩⟩⟩⟩⟩⟩ rfl rfl ?_)
  refine rw_nil ?_
  refine w_cond rfl (fun hc2 => ?_) (fun hc2 => ?_)
  all_goals try simp only [bs] at hc2
  · -- region 6
    refine w_region ?_
    refine rw_t 15 rfl rfl rfl (do_move rfl ?_)
    refine rw_t 16 rfl rfl rfl (do_move rfl ?_)
    refine rw_t 17 rfl rfl rfl (n_bs (nm := 13) Int (encI .i64) 0 [((i : Nat) : Int)] rfl rfl rfl rfl rfl (fun _ => rfl) (fun _ _ h => by simp [encI] at h; subst h; rfl) rfl ?_)
    refine rw_t 18 rfl rfl rfl (n_app_own (nm := 14) rfl rfl rfl rfl rfl (by first | omega | (simp only [ls] <;> omega)) (by first | omega | (simp only [ls] <;> omega)) (by omega) (by omega) rfl ?_)
    refine rw_t 5 rfl rfl rfl (do_assign rfl ?_)
    refine rw_nil ?_
    -- region 7
    refine w_region ?_
    refine rw_t 19 rfl rfl rfl (do_add rfl rfl (by omega) ?_)
    refine rw_t 9 rfl rfl rfl (do_move rfl ?_)
    refine rw_nil ?_
    have hq : (stuQ c p) i = true := decide_eq_true hc2
    refine ⟨i + 1, [0, 1, 2, 3, 4, 5, 6, 7, 8, 9, 10, 11, 14], by dsimp only; omega, by omega, ⟨.inr ⟨_, rfl, .inl rfl⟩, .inr ⟨_, rfl, .inl rfl⟩, .inr ⟨_, rfl, .inl rfl⟩, .inr ⟨_, rfl, .inl rfl⟩, .inr ⟨_, rfl, .inl rfl⟩, .inr ⟨_, rfl, .inl rfl⟩, .inr ⟨_, rfl, .inl rfl⟩, .inr ⟨_, rfl, .inl rfl⟩, .inr ⟨_, rfl, .inl rfl⟩, .inr ⟨_, rfl, .inl rfl⟩, .inr ⟨_, rfl, .inl rfl⟩, .inr ⟨_, rfl, .inl rfl⟩, .inr ⟨_, rfl, .inl (congrArg (SO.ints true .i64) (selK_one hq))⟩, trivial⟩, rfl, pre_ok rfl, ⟨⟨_, rfl, rfl⟩, ⟨_, rfl, rfl⟩, ⟨_, rfl, (congrArg (fun n => SV.slc 14 0 n none) (by rw [selK_one hq, List.length_append]; rfl : (selK (stuQ c p) i).length + 1 = (selK (stuQ c p) (i + 1)).length)).trans rfl⟩, ⟨_, rfl, rfl⟩, ⟨_, rfl, rfl⟩, trivial⟩⟩
  · refine w_skip ?_
    -- region 7
    refine w_region ?_
    refine rw_t 19 rfl rfl rfl (do_add rfl rfl (by omega) ?_)
    refine rw_t 9 rfl rfl rfl (do_move rfl ?_)
    refine rw_nil ?_
    have hq : ¬ (stuQ c p) i = true := fun q => hc2 (of_decide_eq_true q)
    refine ⟨i + 1, [0, 1, 2, 3, 4, 5, 6, 7, 8, 9, 10, 11, 12], by dsimp only; omega, by omega, ⟨.inr ⟨_, rfl, .inl rfl⟩, .inr ⟨_, rfl, .inl rfl⟩, .inr ⟨_, rfl, .inl rfl⟩, .inr ⟨_, rfl, .inl rfl⟩, .inr ⟨_, rfl, .inl rfl⟩, .inr ⟨_, rfl, .inl rfl⟩, .inr ⟨_, rfl, .inl rfl⟩, .inr ⟨_, rfl, .inl rfl⟩, .inr ⟨_, rfl, .inl rfl⟩, .inr ⟨_, rfl, .inl rfl⟩, .inr ⟨_, rfl, .inl rfl⟩, .inr ⟨_, rfl, .inl rfl⟩, .inr ⟨_, rfl, .inl (congrArg (SO.ints true .i64) (selK_none hq))⟩, trivial⟩, rfl, pre_ok rfl, ⟨⟨_, rfl, rfl⟩, ⟨_, rfl, rfl⟩, ⟨_, rfl, (congrArg (fun n => SV.slc 12 0 n none) (by rw [selK_none hq] : (selK (stuQ c p) i).length = (selK (stuQ c p) (i + 1)).length)).trans rfl⟩, ⟨_, rfl, rfl⟩, ⟨_, rfl, rfl⟩, trivial⟩⟩
-- f20 "acequia/pre.Active"
set_option maxHeartbeats 8000000 in
set_option synthInstance.maxHeartbeats 400000 in
set_option synthInstance.maxSize 2000 in
theorem t_Active (c : Csr) (p : Pre) (h : CsrT c) (hp : PreIn c p) : Tri Try.prog 20 [.agg [.val (.int .i64 c.N), .val (.int .i64 c.S), .val (.int .i64 c.T), .slc 0 0 c.First.length none, .slc 1 0 c.Head.length none, .slc 2 0 c.Rev.length none, .slc 3 0 c.Cap.length none, .slc 4 0 c.Arc.length none, .slc 5 0 c.Back.length none], .agg [.slc 6 0 p.Res.length none, .slc 7 0 p.Ex.length none, .slc 8 0 p.H.length none]] [SO.ints false .i64 c.First, SO.ints false .i64 c.Head, SO.ints false .i64 c.Rev, SO.ints false .i64 c.Cap, SO.ints false .i64 c.Arc, SO.bools false c.Back, SO.ints false .i64 p.Res, SO.ints false .i64 p.Ex, SO.ints false .i64 p.H] (fun s H => s = .slc 9 0 ((activeL c p).length) none ∧ H = [SO.ints false .i64 c.First, SO.ints false .i64 c.Head, SO.ints false .i64 c.Rev, SO.ints false .i64 c.Cap, SO.ints false .i64 c.Arc, SO.bools false c.Back, SO.ints false .i64 p.Res, SO.ints false .i64 p.Ex, SO.ints false .i64 p.H, SO.ints true .i64 (activeL c p)]) := by
  refine tri_of_w (fn := Try.f20) Try.func20 rfl (by simp [Try.f20]) ?_
  intro ρ w hρ
  refine w_seq ?_
  have hn := h.n
  have hf := h.first
  have hhd := h.head
  have hrl := h.rev
  have hcl := h.cap
  have hal := h.arc
  have hbl := h.back
  have hr := hp.res
  have hx := hp.ex
  have hh := hp.h
  -- region 0
  refine w_region ?_
  refine rw_t 2 rfl rfl rfl (n_box_agg (n := 9) rfl rfl ?_)
  refine rw_t 3 rfl rfl rfl (n_box_agg (n := 10) rfl rfl ?_)
  refine rw_t 4 rfl rfl rfl (do_assign rfl ?_)
  refine rw_nil ?_
  refine w_seq ?_
  -- region 1
  refine w_region ?_
  refine rw_t 5 rfl rfl rfl (n_load_boxagg [_, _, _, _, _, _, _, _, _] rfl rfl (Nat.le_of_ble_eq_true rfl) rfl ?_)
  refine rw_t 6 rfl rfl rfl (do_makefunc rfl rfl ?_)
  refine rw_t 7 rfl rfl rfl (n_callW (X' := .slc 11 0 ((selK (actQ c p) c.N.toNat).length) none) (H' := [SO.ints false .i64 c.First, SO.ints false .i64 c.Head, SO.ints false .i64 c.Rev, SO.ints false .i64 c.Cap, SO.ints false .i64 c.Arc, SO.bools false c.Back, SO.ints false .i64 p.Res, SO.ints false .i64 p.Ex, SO.ints false .i64 p.H, .box [.val (.int .i64 c.N), .val (.int .i64 c.S), .val (.int .i64 c.T), .slc 0 0 c.First.length none, .slc 1 0 c.Head.length none, .slc 2 0 c.Rev.length none, .slc 3 0 c.Cap.length none, .slc 4 0 c.Arc.length none, .slc 5 0 c.Back.length none], .box [.slc 6 0 p.Res.length none, .slc 7 0 p.Ex.length none, .slc 8 0 p.H.length none], SO.ints true .i64 (selK (actQ c p) c.N.toNat)]) rfl rfl (t_allA (c := c) (p := p) (h) (hp)) [0, 1, 2, 3, 4, 5, 6, 7, 8, 9, 10] ⟨.inr ⟨_, rfl, srv⟩, .inr ⟨_, rfl, srv⟩, .inr ⟨_, rfl, srv⟩, .inr ⟨_, rfl, srv⟩, .inr ⟨_, rfl, srv⟩, .inr ⟨_, rfl, srv⟩, .inr ⟨_, rfl, srv⟩, .inr ⟨_, rfl, srv⟩, .inr ⟨_, rfl, srv⟩, .inr ⟨_, rfl, .inl rfl⟩, .inr ⟨_, rfl, .inl rfl⟩, trivial⟩ rfl rfl ⟨fun h => (by cases h), ⟨fun h => (by cases h), ⟨fun h => (by cases h), ⟨fun h => (by cases h), ⟨fun h => (by cases h), ⟨fun h => (by cases h), ⟨fun h => (by cases h), ⟨fun h => (by cases h), ⟨fun h => (by cases h), ⟨fun h => .inl rfl, ⟨fun h => .inl rfl, (okNew_tail rfl)⟩⟩⟩⟩⟩⟩⟩⟩⟩⟩⟩ rfl rfl ?_)
  refine rw_t 4 rfl rfl rfl (do_assign rfl ?_)
  refine rw_nil ?_
  refine w_ret ?_
  -- RESULT .slc 11 0 ((selK (actQ c p) c.N.toNat).length) none, WANTED .slc 9 0 ((activeL c p).length) none
  exact ret_eq (.inl rfl) (.cons (res_tmp rfl) .nil) [0, 1, 2, 3, 4, 5, 6, 7, 8, 11] (rfl) ⟨.inr ⟨_, rfl, .inl rfl⟩, .inr ⟨_, rfl, .inl rfl⟩, .inr ⟨_, rfl, .inl rfl⟩, .inr ⟨_, rfl, .inl rfl⟩, .inr ⟨_, rfl, .inl rfl⟩, .inr ⟨_, rfl, .inl rfl⟩, .inr ⟨_, rfl, .inl rfl⟩, .inr ⟨_, rfl, .inl rfl⟩, .inr ⟨_, rfl, .inl rfl⟩, .inr ⟨_, rfl, .inl rfl⟩, trivial⟩ rfl (pre_ok rfl)
end Go.Proofs

set_option linter.unusedVariables false
set_option linter.unusedSimpArgs false
namespace Go.Proofs
open Go Go.Sx Go.RowKit
theorem selK_push {q : Int → Bool} {k i : Nat} {z : Int} (h : q ((k + i : Nat) : Int) = true) (hz : z = ((k + i : Nat) : Int)) : selK q (k + (i + 1)) = selK q (k + i) ++ [z] := by rw [hz]; exact selK_one h
theorem selK_skip {q : Int → Bool} {k i : Nat} (h : ¬ q ((k + i : Nat) : Int) = true) : selK q (k + (i + 1)) = selK q (k + i) := selK_none h
-- f17 "acequia/pre.May"
set_option maxHeartbeats 8000000 in
set_option synthInstance.maxHeartbeats 400000 in
set_option synthInstance.maxSize 2000 in
theorem t_May (c : Csr) (p : Pre) (h : CsrT c) (hp : PreIn c p) : Tri Try.prog 17 [.agg [.val (.int .i64 c.N), .val (.int .i64 c.S), .val (.int .i64 c.T), .slc 0 0 c.First.length none, .slc 1 0 c.Head.length none, .slc 2 0 c.Rev.length none, .slc 3 0 c.Cap.length none, .slc 4 0 c.Arc.length none, .slc 5 0 c.Back.length none], .agg [.slc 6 0 p.Res.length none, .slc 7 0 p.Ex.length none, .slc 8 0 p.H.length none]] [SO.ints false .i64 c.First, SO.ints false .i64 c.Head, SO.ints false .i64 c.Rev, SO.ints false .i64 c.Cap, SO.ints false .i64 c.Arc, SO.bools false c.Back, SO.ints false .i64 p.Res, SO.ints false .i64 p.Ex, SO.ints false .i64 p.H] (fun s H => s = .tup [.slc 9 0 ((pushL c p).length) none, .slc 10 0 ((stuckL c p).length) none] ∧ H = [SO.ints false .i64 c.First, SO.ints false .i64 c.Head, SO.ints false .i64 c.Rev, SO.ints false .i64 c.Cap, SO.ints false .i64 c.Arc, SO.bools false c.Back, SO.ints false .i64 p.Res, SO.ints false .i64 p.Ex, SO.ints false .i64 p.H, SO.ints true .i64 (pushL c p), SO.ints true .i64 (stuckL c p)]) := by
  refine tri_of_w (fn := Try.f17) Try.func17 rfl (by simp [Try.f17]) ?_
  intro ρ w hρ
  refine w_seq ?_
  have hn := h.n
  have hf := h.first
  have hhd := h.head
  have hrl := h.rev
  have hcl := h.cap
  have hal := h.arc
  have hbl := h.back
  have hr := hp.res
  have hx := hp.ex
  have hh := hp.h
  have hsm := h.small
  have hf0 := h.f0
  have hfN := h.fN
  -- region 0
  refine w_region ?_
  refine rw_t 2 rfl rfl rfl (n_box_agg (n := 9) rfl rfl ?_)
  refine rw_t 3 rfl rfl rfl (n_box_agg (n := 10) rfl rfl ?_)
  refine rw_t 4 rfl rfl rfl (do_assign rfl ?_)
  refine rw_t 5 rfl rfl rfl (do_assign rfl ?_)
  refine rw_nil ?_
  refine w_seq ?_
  -- region 1
  refine w_region ?_
  refine rw_t 6 rfl rfl rfl (n_alloc (n := 11) rfl ?_)
  refine rw_nil ?_
  refine w_seq ?_
  refine w_seq ?_
  -- region 2
  refine w_region ?_
  refine rw_t 9 rfl rfl rfl (do_fieldaddr rfl ?_)
  refine rw_t 10 rfl rfl rfl (do_load_box rfl rfl rfl ?_)
  refine rw_t 11 rfl rfl rfl (do_move rfl ?_)
  refine rw_nil ?_
  refine w_block ?_
  refine n_ghost Int 1 (encI .i64) 0 (fun _ => rfl) (fun _ _ h => by simp [encI] at h; subst h; rfl) ?_
  refine n_nilB 11 0 12 0 rfl rfl ?_
  refine w_loopS (ι := Nat) (fun v => [(2, .ptr 9 0 0), (3, .ptr 10 0 0), (4, .val (.slice none 0 0)), (5, .val (.slice none 0 0)), (6, .ptr 11 0 0), (10, .val (.int .i64 c.N)), (11, .val (.int .i64 ((v : Nat) : Int)))]) (fun v => [SO.ints false .i64 c.First, SO.ints false .i64 c.Head, SO.ints false .i64 c.Rev, SO.ints false .i64 c.Cap, SO.ints false .i64 c.Arc, SO.bools false c.Back, SO.ints false .i64 p.Res, SO.ints false .i64 p.Ex, SO.ints false .i64 p.H, .box [.val (.int .i64 c.N), .val (.int .i64 c.S), .val (.int .i64 c.T), .slc 0 0 c.First.length none, .slc 1 0 c.Head.length none, .slc 2 0 c.Rev.length none, .slc 3 0 c.Cap.length none, .slc 4 0 c.Arc.length none, .slc 5 0 c.Back.length none], .box [.slc 6 0 p.Res.length none, .slc 7 0 p.Ex.length none, .slc 8 0 p.H.length none], .box [.slc 12 0 ((selK (pusQ c p) (c.First.getD v 0).toNat).length) none], SO.ints true .i64 (selK (pusQ c p) (c.First.getD v 0).toNat)]) (fun v => c.N.toNat - v) (fun v => v ≤ c.N.toNat) (0) [0, 1, 2, 3, 4, 5, 6, 7, 8, 9, 10, 11, 12] (by simp) ⟨.inr ⟨_, rfl, .inl rfl⟩, .inr ⟨_, rfl, .inl rfl⟩, .inr ⟨_, rfl, .inl rfl⟩, .inr ⟨_, rfl, .inl rfl⟩, .inr ⟨_, rfl, .inl rfl⟩, .inr ⟨_, rfl, .inl rfl⟩, .inr ⟨_, rfl, .inl rfl⟩, .inr ⟨_, rfl, .inl rfl⟩, .inr ⟨_, rfl, .inl rfl⟩, .inr ⟨_, rfl, .inl rfl⟩, .inr ⟨_, rfl, .inl rfl⟩, .inr ⟨_, rfl, .inl (box_congr (cons_congr (congrArg (fun n => SV.slc 12 0 n none) (by rw [hf0]; rfl)) ((rfl : ([] : List SV) = []))))⟩, .inr ⟨_, rfl, .inl (congrArg (SO.ints true .i64) (by rw [hf0]; rfl))⟩, trivial⟩ rfl (pre_ok rfl) hρ ⟨⟨_, rfl, rfl⟩, ⟨_, rfl, rfl⟩, ⟨_, rfl, rfl⟩, ⟨_, rfl, rfl⟩, ⟨_, rfl, rfl⟩, ⟨_, rfl, rfl⟩, ⟨_, rfl, rfl⟩, trivial⟩ ?_
  intro v hv
  refine w_seq ?_
  -- region 3
  refine w_region ?_
  refine rw_t 12 rfl rfl rfl (do_bin rfl rfl rfl ?_)
  refine rw_nil ?_
  refine w_seq ?_
  refine w_cond rfl (fun hc1 => ?_) (fun hc1 => ?_)
  all_goals try simp only [bs] at hc1
  rotate_left
  · refine w_exit ?_ -- exit 0
    refine w_seq ?_
    -- region 10
    refine w_env [(2, .ptr 9 0 0), (3, .ptr 10 0 0), (6, .ptr 11 0 0)] ⟨⟨_, rfl, rfl⟩, ⟨_, rfl, rfl⟩, ⟨_, rfl, rfl⟩, trivial⟩ ?_
    refine w_draw mixed [0, 0, 0, 6] [15, 31] (by kernel_rfl) (by kernel_rfl) rfl rfl rfl (hle hρ rfl) ?_
    refine ra_q (j := 0) rfl rfl rfl rfl (do_load_box rfl rfl rfl ⟨rfl, rfl⟩) (by rfl) ?_
    refine ra_q (j := 1) rfl rfl rfl rfl (n_load_boxagg [_, _, _, _, _, _, _, _, _] rfl rfl (Nat.le_of_ble_eq_true rfl) rfl ⟨rfl, rfl⟩) (by rfl) ?_
    refine ra_q (j := 2) rfl rfl rfl rfl (do_makefunc rfl rfl ⟨rfl, rfl⟩) (by rfl) ?_
    refine ra_n (j := 3) rfl rfl rfl rfl (n_callW (X' := .slc 13 0 ((selK (stuQ c p) c.N.toNat).length) none) (H' := [SO.ints false .i64 c.First, SO.ints false .i64 c.Head, SO.ints false .i64 c.Rev, SO.ints false .i64 c.Cap, SO.ints false .i64 c.Arc, SO.bools false c.Back, SO.ints false .i64 p.Res, SO.ints false .i64 p.Ex, SO.ints false .i64 p.H, .box [.val (.int .i64 c.N), .val (.int .i64 c.S), .val (.int .i64 c.T), .slc 0 0 c.First.length none, .slc 1 0 c.Head.length none, .slc 2 0 c.Rev.length none, .slc 3 0 c.Cap.length none, .slc 4 0 c.Arc.length none, .slc 5 0 c.Back.length none], .box [.slc 6 0 p.Res.length none, .slc 7 0 p.Ex.length none, .slc 8 0 p.H.length none], .box [.slc 12 0 ((selK (pusQ c p) (c.First.getD v 0).toNat).length) none], SO.ints true .i64 (selK (pusQ c p) (c.First.getD v 0).toNat), SO.ints true .i64 (selK (stuQ c p) c.N.toNat)]) rfl rfl (t_allM (c := c) (p := p) (h) (hp)) [0, 1, 2, 3, 4, 5, 6, 7, 8, 9, 10] ⟨.inr ⟨_, rfl, srv⟩, .inr ⟨_, rfl, srv⟩, .inr ⟨_, rfl, srv⟩, .inr ⟨_, rfl, srv⟩, .inr ⟨_, rfl, srv⟩, .inr ⟨_, rfl, srv⟩, .inr ⟨_, rfl, srv⟩, .inr ⟨_, rfl, srv⟩, .inr ⟨_, rfl, srv⟩, .inr ⟨_, rfl, .inl rfl⟩, .inr ⟨_, rfl, .inl rfl⟩, trivial⟩ rfl rfl ⟨fun h => (by cases h), ⟨fun h => (by cases h), ⟨fun h => (by cases h), ⟨fun h => (by cases h), ⟨fun h => (by cases h), ⟨fun h => (by cases h), ⟨fun h => (by cases h), ⟨fun h => (by cases h), ⟨fun h => (by cases h), ⟨fun h => .inl rfl, ⟨fun h => .inl rfl, (okNew_tail rfl)⟩⟩⟩⟩⟩⟩⟩⟩⟩⟩⟩ rfl rfl ⟨rfl, rfl⟩) (by rfl) (by rfl) (by rfl) ?_
    refine n_done ?_
    refine rw_t 4 rfl rfl rfl (do_assign rfl ?_)
    refine rw_t 5 rfl rfl rfl (do_assign rfl ?_)
    refine rw_nil ?_
    have hv' : v = c.N.toNat := by omega
    subst hv'
    have hend : (c.First.getD c.N.toNat 0).toNat = c.Head.length := by omega
    refine w_ret ?_
    exact ret_eq (.inl rfl) (.cons (res_tmp rfl) (.cons (res_tmp rfl) .nil)) [0, 1, 2, 3, 4, 5, 6, 7, 8, 12, 13] (by unfold pushL stuckL; rw [← hend]; rfl) ⟨.inr ⟨_, rfl, .inl rfl⟩, .inr ⟨_, rfl, .inl rfl⟩, .inr ⟨_, rfl, .inl rfl⟩, .inr ⟨_, rfl, .inl rfl⟩, .inr ⟨_, rfl, .inl rfl⟩, .inr ⟨_, rfl, .inl rfl⟩, .inr ⟨_, rfl, .inl rfl⟩, .inr ⟨_, rfl, .inl rfl⟩, .inr ⟨_, rfl, .inl rfl⟩, .inr ⟨_, rfl, .inl (congrArg (SO.ints true .i64) (by unfold pushL; rw [← hend]))⟩, .inr ⟨_, rfl, .inl rfl⟩, trivial⟩ rfl (pre_ok rfl)
  refine w_skip ?_
  refine w_seq ?_
  refine w_block ?_
  refine w_seq ?_
  have hu : 0 ≤ ((v : Nat) : Int) ∧ ((v : Nat) : Int) < c.N := by omega
  have hm := h.mono v (by omega)
  have hv1 : ((v : Nat) : Int).toNat = v := Int.toNat_natCast v
  have hv2 : (((v : Nat) : Int) + 1).toNat = v + 1 := by omega
  have hsl := selK_len (pusQ c p) (c.First.getD v 0).toNat
  -- region 4
  refine w_region ?_
  refine rw_t 13 rfl rfl rfl (do_move rfl ?_)
  refine rw_t 7 rfl rfl rfl (n_alloc (n := 13) rfl ?_)
  refine rw_u rfl rfl (n_store_box (f := 0) rfl rfl rfl (Nat.le_of_ble_eq_true rfl) rfl ?_)
  refine rw_nil ?_
  refine w_seq ?_
  -- region 5
  refine w_region ?_
  refine rw_t 14 rfl rfl rfl (n_load_boxagg [_, _, _, _, _, _, _, _, _] rfl rfl (Nat.le_of_ble_eq_true rfl) rfl ?_)
  refine rw_t 15 rfl rfl rfl (do_load_box rfl rfl rfl ?_)
  refine rw_t 16 rfl rfl rfl (n_callN (X' := .func 75 [] [.ptr 14 0 0, .ptr 15 0 0]) (N' := [.box [.val (.int .i64 c.N), .val (.int .i64 c.S), .val (.int .i64 c.T), .slc 0 0 c.First.length none, .slc 1 0 c.Head.length none, .slc 2 0 c.Rev.length none, .slc 3 0 c.Cap.length none, .slc 4 0 c.Arc.length none, .slc 5 0 c.Back.length none], .box [.val (.int .i64 ((v : Nat) : Int))]]) rfl rfl (t_arcs (c := c) (u := ((v : Nat) : Int))) [0, 1, 2, 3, 4, 5] ⟨.inr ⟨_, rfl, srv⟩, .inr ⟨_, rfl, srv⟩, .inr ⟨_, rfl, srv⟩, .inr ⟨_, rfl, srv⟩, .inr ⟨_, rfl, srv⟩, .inr ⟨_, rfl, srv⟩, trivial⟩ rfl rfl rfl rfl rfl ?_)
  refine rw_nil ?_
  refine w_block ?_
  refine w_rf [(2, .ptr 9 0 0), (3, .ptr 10 0 0), (4, .val (.slice none 0 0)), (5, .val (.slice none 0 0)), (6, .ptr 11 0 0), (7, .ptr 13 0 0), (10, .val (.int .i64 c.N)), (11, .val (.int .i64 ((v : Nat) : Int))), (12, .val (.bool (decide (((v : Nat) : Int) < c.N)))), (13, .val (.int .i64 ((v : Nat) : Int))), (14, .agg [.val (.int .i64 c.N), .val (.int .i64 c.S), .val (.int .i64 c.T), .slc 0 0 c.First.length none, .slc 1 0 c.Head.length none, .slc 2 0 c.Rev.length none, .slc 3 0 c.Cap.length none, .slc 4 0 c.Arc.length none, .slc 5 0 c.Back.length none]), (15, .val (.int .i64 ((v : Nat) : Int))), (16, .func 75 [] [.ptr 14 0 0, .ptr 15 0 0])] 16 [.yield 16, .ptr 14 0 0, .ptr 15 0 0] (fun q1 => [SO.ints false .i64 c.First, SO.ints false .i64 c.Head, SO.ints false .i64 c.Rev, SO.ints false .i64 c.Cap, SO.ints false .i64 c.Arc, SO.bools false c.Back, SO.ints false .i64 p.Res, SO.ints false .i64 p.Ex, SO.ints false .i64 p.H, .box [.val (.int .i64 c.N), .val (.int .i64 c.S), .val (.int .i64 c.T), .slc 0 0 c.First.length none, .slc 1 0 c.Head.length none, .slc 2 0 c.Rev.length none, .slc 3 0 c.Cap.length none, .slc 4 0 c.Arc.length none, .slc 5 0 c.Back.length none], .box [.slc 6 0 p.Res.length none, .slc 7 0 p.Ex.length none, .slc 8 0 p.H.length none], .box [.slc 12 0 ((selK (pusQ c p) (c.First.getD v 0).toNat).length) none], SO.ints true .i64 (selK (pusQ c p) (c.First.getD v 0).toNat), .box [.val (.int .i64 ((v : Nat) : Int))], .box [.val (.int .i64 c.N), .val (.int .i64 c.S), .val (.int .i64 c.T), .slc 0 0 c.First.length none, .slc 1 0 c.Head.length none, .slc 2 0 c.Rev.length none, .slc 3 0 c.Cap.length none, .slc 4 0 c.Arc.length none, .slc 5 0 c.Back.length none], .box [.val (.int .i64 ((v : Nat) : Int))], .gen [.ptr 9 0 0, .ptr 10 0 0, .val (.slice none 0 0), .val (.slice none 0 0), .ptr 11 0 0, .ptr 13 0 0, .val (.int .i64 c.N), .val (.int .i64 ((v : Nat) : Int)), .val (.bool (decide (((v : Nat) : Int) < c.N))), .val (.int .i64 ((v : Nat) : Int)), .agg [.val (.int .i64 c.N), .val (.int .i64 c.S), .val (.int .i64 c.T), .slc 0 0 c.First.length none, .slc 1 0 c.Head.length none, .slc 2 0 c.Rev.length none, .slc 3 0 c.Cap.length none, .slc 4 0 c.Arc.length none, .slc 5 0 c.Back.length none], .val (.int .i64 ((v : Nat) : Int)), .func 75 [] [.ptr 14 0 0, .ptr 15 0 0]] (q1 .ready none)]) rfl rfl rfl rfl (fun _ => rfl) ⟨⟨_, rfl, rfl⟩, ⟨_, rfl, rfl⟩, ⟨_, rfl, rfl⟩, ⟨_, rfl, rfl⟩, ⟨_, rfl, rfl⟩, ⟨_, rfl, rfl⟩, ⟨_, rfl, rfl⟩, ⟨_, rfl, rfl⟩, ⟨_, rfl, rfl⟩, ⟨_, rfl, rfl⟩, ⟨_, rfl, rfl⟩, ⟨_, rfl, rfl⟩, ⟨_, rfl, rfl⟩, trivial⟩ (fun q1 hq1 => ?_)
  refine tri_of_w (fn := Try.f75) Try.func75 rfl (by simp [Try.f75]) ?_
  intro ρr1 wr1 hρ1
  refine w_seq ?_
  -- region 0
  refine w_region ?_
  refine rw_t 5 rfl rfl rfl (do_fieldaddr rfl ?_)
  refine rw_t 6 rfl rfl rfl (do_load_box rfl rfl rfl ?_)
  refine rw_t 7 rfl rfl rfl (do_load_box rfl rfl rfl ?_)
  refine rw_t 8 rfl rfl rfl (do_ix0 rfl rfl rfl (by first | omega | (simp only [ls] <;> omega)) ?_)
  refine rw_t 9 rfl rfl rfl (do_load_arr rfl rfl (by first | omega | (simp only [ls] <;> omega)) rfl ?_)
  refine rw_t 4 rfl rfl rfl (do_assign rfl ?_)
  refine rw_nil ?_
  refine w_block ?_
  refine w_loopS (ι := Nat) (fun i => [(0, .yield 16), (1, .ptr 14 0 0), (2, .ptr 15 0 0), (4, .val (.int .i64 (c.First.getD ((v : Nat) : Int).toNat 0 + (i : Int))))]) (fun i => [SO.ints false .i64 c.First, SO.ints false .i64 c.Head, SO.ints false .i64 c.Rev, SO.ints false .i64 c.Cap, SO.ints false .i64 c.Arc, SO.bools false c.Back, SO.ints false .i64 p.Res, SO.ints false .i64 p.Ex, SO.ints false .i64 p.H, .box [.val (.int .i64 c.N), .val (.int .i64 c.S), .val (.int .i64 c.T), .slc 0 0 c.First.length none, .slc 1 0 c.Head.length none, .slc 2 0 c.Rev.length none, .slc 3 0 c.Cap.length none, .slc 4 0 c.Arc.length none, .slc 5 0 c.Back.length none], .box [.slc 6 0 p.Res.length none, .slc 7 0 p.Ex.length none, .slc 8 0 p.H.length none], .box [.slc 17 0 ((selK (pusQ c p) ((c.First.getD v 0).toNat + i)).length) none], .dead, .box [.val (.int .i64 ((v : Nat) : Int))], .box [.val (.int .i64 c.N), .val (.int .i64 c.S), .val (.int .i64 c.T), .slc 0 0 c.First.length none, .slc 1 0 c.Head.length none, .slc 2 0 c.Rev.length none, .slc 3 0 c.Cap.length none, .slc 4 0 c.Arc.length none, .slc 5 0 c.Back.length none], .box [.val (.int .i64 ((v : Nat) : Int))], .gen [.ptr 9 0 0, .ptr 10 0 0, .val (.slice none 0 0), .val (.slice none 0 0), .ptr 11 0 0, .ptr 13 0 0, .val (.int .i64 c.N), .val (.int .i64 ((v : Nat) : Int)), .val (.bool (decide (((v : Nat) : Int) < c.N))), .val (.int .i64 ((v : Nat) : Int)), .agg [.val (.int .i64 c.N), .val (.int .i64 c.S), .val (.int .i64 c.T), .slc 0 0 c.First.length none, .slc 1 0 c.Head.length none, .slc 2 0 c.Rev.length none, .slc 3 0 c.Cap.length none, .slc 4 0 c.Arc.length none, .slc 5 0 c.Back.length none], .val (.int .i64 ((v : Nat) : Int)), .func 75 [] [.ptr 14 0 0, .ptr 15 0 0]] (q1 .ready none), SO.ints true .i64 (selK (pusQ c p) ((c.First.getD v 0).toNat + i))]) (fun i => (c.First.getD (v + 1) 0 - c.First.getD v 0).toNat - i) (fun i => i ≤ (c.First.getD (v + 1) 0 - c.First.getD v 0).toNat) (0) [0, 1, 2, 3, 4, 5, 6, 7, 8, 9, 10, 11, 12, 13, 14, 15, 16, 12] (by simp) ⟨.inr ⟨_, rfl, .inl rfl⟩, .inr ⟨_, rfl, .inl rfl⟩, .inr ⟨_, rfl, .inl rfl⟩, .inr ⟨_, rfl, .inl rfl⟩, .inr ⟨_, rfl, .inl rfl⟩, .inr ⟨_, rfl, .inl rfl⟩, .inr ⟨_, rfl, .inl rfl⟩, .inr ⟨_, rfl, .inl rfl⟩, .inr ⟨_, rfl, .inl rfl⟩, .inr ⟨_, rfl, .inl rfl⟩, .inr ⟨_, rfl, .inl rfl⟩, .inr ⟨_, rfl, .inl rfl⟩, .inl rfl, .inr ⟨_, rfl, .inl rfl⟩, .inr ⟨_, rfl, .inl rfl⟩, .inr ⟨_, rfl, .inl rfl⟩, .inr ⟨_, rfl, .inl rfl⟩, .inr ⟨_, rfl, .inl rfl⟩, trivial⟩ rfl (pre_ok rfl) hρ1 ⟨⟨_, rfl, rfl⟩, ⟨_, rfl, rfl⟩, ⟨_, rfl, rfl⟩, ⟨_, rfl, Eq.symm (val_congr (by simp))⟩, trivial⟩ ?_
  intro i hi
  refine w_seq ?_
  refine w_seq ?_
  -- region 1
  refine w_region ?_
  refine rw_t 10 rfl rfl rfl (do_move rfl ?_)
  refine rw_t 11 rfl rfl rfl (do_fieldaddr rfl ?_)
  refine rw_t 12 rfl rfl rfl (do_load_box rfl rfl rfl ?_)
  refine rw_t 13 rfl rfl rfl (do_load_box rfl rfl rfl ?_)
  refine rw_t 14 rfl rfl rfl (do_add rfl rfl (by omega) ?_)
  refine rw_t 15 rfl rfl rfl (do_ix0 rfl rfl rfl (by first | omega | (simp only [ls] <;> omega)) ?_)
  refine rw_t 16 rfl rfl rfl (do_load_arr rfl rfl (by first | omega | (simp only [ls] <;> omega)) rfl ?_)
  refine rw_t 17 rfl rfl rfl (do_bin rfl rfl rfl ?_)
  refine rw_nil ?_
  refine w_cond rfl (fun hc2 => ?_) (fun hc2 => ?_)
  all_goals try simp only [bs] at hc2
  rotate_left
  · refine w_exit ?_ -- exit 0
    refine ret_iter (.inr rfl) rfl (Y := [SO.ints false .i64 c.First, SO.ints false .i64 c.Head, SO.ints false .i64 c.Rev, SO.ints false .i64 c.Cap, SO.ints false .i64 c.Arc, SO.bools false c.Back, SO.ints false .i64 p.Res, SO.ints false .i64 p.Ex, SO.ints false .i64 p.H, .box [.val (.int .i64 c.N), .val (.int .i64 c.S), .val (.int .i64 c.T), .slc 0 0 c.First.length none, .slc 1 0 c.Head.length none, .slc 2 0 c.Rev.length none, .slc 3 0 c.Cap.length none, .slc 4 0 c.Arc.length none, .slc 5 0 c.Back.length none], .box [.slc 6 0 p.Res.length none, .slc 7 0 p.Ex.length none, .slc 8 0 p.H.length none], .box [.slc 17 0 ((selK (pusQ c p) ((c.First.getD v 0).toNat + i)).length) none], .dead, .box [.val (.int .i64 ((v : Nat) : Int))], .box [.val (.int .i64 c.N), .val (.int .i64 c.S), .val (.int .i64 c.T), .slc 0 0 c.First.length none, .slc 1 0 c.Head.length none, .slc 2 0 c.Rev.length none, .slc 3 0 c.Cap.length none, .slc 4 0 c.Arc.length none, .slc 5 0 c.Back.length none], .box [.val (.int .i64 ((v : Nat) : Int))], .gen [.ptr 9 0 0, .ptr 10 0 0, .val (.slice none 0 0), .val (.slice none 0 0), .ptr 11 0 0, .ptr 13 0 0, .val (.int .i64 c.N), .val (.int .i64 ((v : Nat) : Int)), .val (.bool (decide (((v : Nat) : Int) < c.N))), .val (.int .i64 ((v : Nat) : Int)), .agg [.val (.int .i64 c.N), .val (.int .i64 c.S), .val (.int .i64 c.T), .slc 0 0 c.First.length none, .slc 1 0 c.Head.length none, .slc 2 0 c.Rev.length none, .slc 3 0 c.Cap.length none, .slc 4 0 c.Arc.length none, .slc 5 0 c.Back.length none], .val (.int .i64 ((v : Nat) : Int)), .func 75 [] [.ptr 14 0 0, .ptr 15 0 0]] (q1 .ready none), SO.ints true .i64 (selK (pusQ c p) ((c.First.getD v 0).toNat + i))]) [0, 1, 2, 3, 4, 5, 6, 7, 8, 9, 10, 11, 12, 13, 14, 15, 16, 17] ⟨.inr ⟨_, rfl, .inl rfl⟩, .inr ⟨_, rfl, .inl rfl⟩, .inr ⟨_, rfl, .inl rfl⟩, .inr ⟨_, rfl, .inl rfl⟩, .inr ⟨_, rfl, .inl rfl⟩, .inr ⟨_, rfl, .inl rfl⟩, .inr ⟨_, rfl, .inl rfl⟩, .inr ⟨_, rfl, .inl rfl⟩, .inr ⟨_, rfl, .inl rfl⟩, .inr ⟨_, rfl, .inl rfl⟩, .inr ⟨_, rfl, .inl rfl⟩, .inr ⟨_, rfl, .inl rfl⟩, .inl rfl, .inr ⟨_, rfl, .inl rfl⟩, .inr ⟨_, rfl, .inl rfl⟩, .inr ⟨_, rfl, .inl rfl⟩, .inr ⟨_, rfl, .inl rfl⟩, .inr ⟨_, rfl, .inl rfl⟩, trivial⟩ rfl (pre_ok rfl) ?_
    refine iter_none rfl ?_
    -- region 9
    refine w_region ?_
    refine rw_t 33 rfl rfl rfl (do_add rfl rfl (by omega) ?_)
    refine rw_t 11 rfl rfl rfl (do_move rfl ?_)
    refine rw_nil ?_
    rw [hv1, hv2] at hc2
    have hend : (c.First.getD v 0).toNat + i = (c.First.getD (v + 1) 0).toNat := by omega
    refine ⟨v + 1, [0, 1, 2, 3, 4, 5, 6, 7, 8, 9, 10, 11, 17], by dsimp only; omega, by omega, ⟨.inr ⟨_, rfl, .inl rfl⟩, .inr ⟨_, rfl, .inl rfl⟩, .inr ⟨_, rfl, .inl rfl⟩, .inr ⟨_, rfl, .inl rfl⟩, .inr ⟨_, rfl, .inl rfl⟩, .inr ⟨_, rfl, .inl rfl⟩, .inr ⟨_, rfl, .inl rfl⟩, .inr ⟨_, rfl, .inl rfl⟩, .inr ⟨_, rfl, .inl rfl⟩, .inr ⟨_, rfl, .inl rfl⟩, .inr ⟨_, rfl, .inl rfl⟩, .inr ⟨_, rfl, .inl (box_congr (cons_congr (congrArg (fun n => SV.slc 17 0 n none) (by rw [hend])) ((rfl : ([] : List SV) = []))))⟩, .inr ⟨_, rfl, .inl (congrArg (SO.ints true .i64) (by rw [hend]))⟩, trivial⟩, rfl, pre_ok rfl, ⟨⟨_, rfl, rfl⟩, ⟨_, rfl, rfl⟩, ⟨_, rfl, rfl⟩, ⟨_, rfl, rfl⟩, ⟨_, rfl, rfl⟩, ⟨_, rfl, rfl⟩, ⟨_, rfl, rfl⟩, trivial⟩⟩
  refine w_skip ?_
  refine w_seq ?_
  refine w_block ?_
  refine w_seq ?_
  -- region 3
  refine w_region ?_
  refine rw_t 20 rfl rfl rfl (do_move rfl ?_)
  refine rw_t 21 rfl rfl rfl (do_move rfl ?_)
  refine rw_t 22 rfl rfl rfl (do_yieldQ [(17, .val (.int .i64 (c.First.getD ((v : Nat) : Int).toNat 0 + (i : Int)))), (2, .ptr 9 0 0), (3, .ptr 10 0 0), (4, .val (.slice none 0 0)), (5, .val (.slice none 0 0)), (6, .ptr 11 0 0), (7, .ptr 13 0 0), (10, .val (.int .i64 c.N)), (11, .val (.int .i64 ((v : Nat) : Int))), (12, .val (.bool (decide (((v : Nat) : Int) < c.N)))), (13, .val (.int .i64 ((v : Nat) : Int))), (14, .agg [.val (.int .i64 c.N), .val (.int .i64 c.S), .val (.int .i64 c.T), .slc 0 0 c.First.length none, .slc 1 0 c.Head.length none, .slc 2 0 c.Rev.length none, .slc 3 0 c.Cap.length none, .slc 4 0 c.Arc.length none, .slc 5 0 c.Back.length none]), (15, .val (.int .i64 ((v : Nat) : Int))), (16, .func 75 [] [.ptr 14 0 0, .ptr 15 0 0])] hq1 rfl rfl rfl rfl rfl rfl (fun ρr2 wr2 lr2 hρ2 => ?_))
  -- region 6
  refine w_region ?_
  refine rw_t 8 rfl rfl rfl (do_assign rfl ?_)
  refine rw_nil ?_
  refine asg_done rfl ?_
  refine w_block ?_
  rw [hv1, hv2] at hc2
  have ht7 := tail_of_arc h (u := ((v : Nat) : Int)) (a := c.First.getD ((v : Nat) : Int).toNat 0 + (i : Int)) hu (by omega) (by rw [hv1]; omega)
  have hk7 : (((c.First.getD v 0).toNat + i : Nat) : Int) = c.First.getD ((v : Nat) : Int).toNat 0 + (i : Int) := by rw [hv1]; omega
  have hsi := selK_len (pusQ c p) ((c.First.getD v 0).toNat + i)
  refine w_seqB 28 ((activeP c p ((v : Nat) : Int) ∧ admP c p ((v : Nat) : Int) (c.First.getD ((v : Nat) : Int).toNat 0 + (i : Int)))) ?_ ?_
  · -- region 7
    refine w_region ?_
    refine rw_t 18 rfl rfl rfl (n_load_boxagg [_, _, _, _, _, _, _, _, _] rfl rfl (Nat.le_of_ble_eq_true rfl) rfl ?_)
    refine rw_t 19 rfl rfl rfl (n_load_boxagg [_, _, _] rfl rfl (Nat.le_of_ble_eq_true rfl) rfl ?_)
    refine rw_t 20 rfl rfl rfl (do_load_box rfl rfl rfl ?_)
    refine rw_t 21 rfl rfl rfl (do_callR (X' := .val (.bool (decide (activeP c p ((v : Nat) : Int))))) rfl rfl (t_active (c := c) (p := p) (u := ((v : Nat) : Int)) (h) (hp) (hu)) [0, 1, 2, 3, 4, 5, 6, 7, 8] ⟨.inr ⟨_, rfl, srv⟩, .inr ⟨_, rfl, srv⟩, .inr ⟨_, rfl, srv⟩, .inr ⟨_, rfl, srv⟩, .inr ⟨_, rfl, srv⟩, .inr ⟨_, rfl, srv⟩, .inr ⟨_, rfl, srv⟩, .inr ⟨_, rfl, srv⟩, .inr ⟨_, rfl, srv⟩, trivial⟩ rfl rfl rfl ?_)
    refine rw_t 22 rfl rfl rfl (do_move rfl ?_)
    refine rw_case 22 rfl (fun g1 => ?_) (fun g1 => ?_)
    · have kg1 := g1
      try simp only [bs] at kg1
      refine rw_gt 23 4 22 true rfl rfl rfl rfl rfl rfl g1 (n_load_boxagg [_, _, _, _, _, _, _, _, _] rfl rfl (Nat.le_of_ble_eq_true rfl) rfl ?_)
      refine rw_gt 24 4 22 true rfl rfl rfl rfl rfl rfl g1 (n_load_boxagg [_, _, _] rfl rfl (Nat.le_of_ble_eq_true rfl) rfl ?_)
      refine rw_gt 25 4 22 true rfl rfl rfl rfl rfl rfl g1 (do_load_box rfl rfl rfl ?_)
      refine rw_gt 26 4 22 true rfl rfl rfl rfl rfl rfl g1 (do_move rfl ?_)
      refine rw_gt 27 4 22 true rfl rfl rfl rfl rfl rfl g1 (do_callR (X' := .val (.bool (decide (admP c p ((v : Nat) : Int) (c.First.getD ((v : Nat) : Int).toNat 0 + (i : Int)))))) rfl rfl (t_adm (c := c) (p := p) (u := ((v : Nat) : Int)) (a := (c.First.getD ((v : Nat) : Int).toNat 0 + (i : Int))) (h) (hp) (hu) (⟨ht7.1, ht7.2.1⟩)) [0, 1, 2, 3, 4, 5, 6, 7, 8] ⟨.inr ⟨_, rfl, srv⟩, .inr ⟨_, rfl, srv⟩, .inr ⟨_, rfl, srv⟩, .inr ⟨_, rfl, srv⟩, .inr ⟨_, rfl, srv⟩, .inr ⟨_, rfl, srv⟩, .inr ⟨_, rfl, srv⟩, .inr ⟨_, rfl, srv⟩, .inr ⟨_, rfl, srv⟩, trivial⟩ rfl rfl rfl ?_)
      refine rw_t 28 rfl rfl rfl (do_pick_t rfl g1 rfl ?_)
      refine rw_nil ?_
      refine ⟨rfl, ⟨_, rfl, by first | (simp; done) | (simp only [bs]; omega) | (simp [*]; done) | (simp; omega) | (constructor <;> intro h <;> simp_all <;> omega)⟩, ?_⟩
      repeat (refine ⟨⟨_, rfl, rfl⟩, ?_⟩)
      exact trivial
    · have kg1 := g1
      try simp only [bs] at kg1
      refine rw_gf 23 4 22 true rfl rfl rfl rfl rfl rfl (by rw [g1]; decide) ?_
      refine rw_gf 24 4 22 true rfl rfl rfl rfl rfl rfl (by rw [g1]; decide) ?_
      refine rw_gf 25 4 22 true rfl rfl rfl rfl rfl rfl (by rw [g1]; decide) ?_
      refine rw_gf 26 4 22 true rfl rfl rfl rfl rfl rfl (by rw [g1]; decide) ?_
      refine rw_gf 27 4 22 true rfl rfl rfl rfl rfl rfl (by rw [g1]; decide) ?_
      refine rw_t 28 rfl rfl rfl (do_pick_f rfl g1 rfl ?_)
      refine rw_nil ?_
      refine ⟨rfl, ⟨_, rfl, by first | (simp; done) | (simp only [bs]; omega) | (simp [*]; done) | (simp; omega) | (constructor <;> intro h <;> simp_all <;> omega)⟩, ?_⟩
      repeat (refine ⟨⟨_, rfl, rfl⟩, ?_⟩)
      exact trivial
  intro b1 hb1
  refine w_condP hb1 rfl (fun hc3 => ?_) (fun hc3 => ?_)
  · -- region 8
    refine w_region ?_
    refine rw_t 29 rfl rfl rfl (do_load_box rfl rfl rfl ?_)
    refine rw_t 30 rfl rfl rfl (do_move rfl ?_)
    refine rw_t 31 rfl rfl rfl (n_bs (nm := 18) Int (encI .i64) 0 [(c.First.getD ((v : Nat) : Int).toNat 0 + (i : Int))] rfl rfl rfl rfl rfl (fun _ => rfl) (fun _ _ h => by simp [encI] at h; subst h; rfl) rfl ?_)
    refine rw_t 32 rfl rfl rfl (n_app_own (nm := 19) rfl rfl rfl rfl rfl (by first | omega | (simp only [ls] <;> omega)) (by first | omega | (simp only [ls] <;> omega)) (by omega) (by omega) rfl ?_)
    refine rw_u rfl rfl (n_store_box (f := 0) rfl rfl rfl (Nat.le_of_ble_eq_true rfl) rfl ?_)
    refine rw_nil ?_
    repeat (with_reducible first | refine bl_n ?_ | refine bl_r ?_ | refine nx_r ?_ | refine nx_e ?_ | refine bl_e rfl ?_)
    refine round_normal rfl ?_
    refine rw_t 23 rfl rfl rfl (do_not rfl ?_)
    refine rw_nil ?_
    refine w_cond rfl (fun hc4 => ?_) (fun hc4 => ?_)
    · exfalso; first | (cases hc4; done) | exact (hc4 trivial) | (try simp only [bs] at hc4; first | omega | (simp_all; done) | (simp_all; omega))
    refine w_skip ?_
    -- region 2
    refine w_region ?_
    refine rw_t 18 rfl rfl rfl (do_move rfl ?_)
    refine rw_t 19 rfl rfl rfl (do_add rfl rfl (by omega) ?_)
    refine rw_t 4 rfl rfl rfl (do_assign rfl ?_)
    refine rw_nil ?_
    have hq : pusQ c p (((c.First.getD v 0).toNat + i : Nat) : Int) = true := decide_eq_true (by rw [hk7]; exact ⟨by rw [ht7.2.2]; exact hc3.1, by rw [ht7.2.2]; exact hc3.2⟩)
    refine ⟨i + 1, [0, 1, 2, 3, 4, 5, 6, 7, 8, 9, 10, 11, 12, 13, 14, 15, 16, 19], by dsimp only; omega, by omega, ⟨.inr ⟨_, rfl, .inl rfl⟩, .inr ⟨_, rfl, .inl rfl⟩, .inr ⟨_, rfl, .inl rfl⟩, .inr ⟨_, rfl, .inl rfl⟩, .inr ⟨_, rfl, .inl rfl⟩, .inr ⟨_, rfl, .inl rfl⟩, .inr ⟨_, rfl, .inl rfl⟩, .inr ⟨_, rfl, .inl rfl⟩, .inr ⟨_, rfl, .inl rfl⟩, .inr ⟨_, rfl, .inl rfl⟩, .inr ⟨_, rfl, .inl rfl⟩, .inr ⟨_, rfl, .inl (box_congr (cons_congr (congrArg (fun n => SV.slc 19 0 n none) (by rw [selK_push hq hk7.symm, List.length_append]; rfl)) ((rfl : ([] : List SV) = []))))⟩, .inl rfl, .inr ⟨_, rfl, .inl rfl⟩, .inr ⟨_, rfl, .inl rfl⟩, .inr ⟨_, rfl, .inl rfl⟩, .inr ⟨_, rfl, .inl rfl⟩, .inr ⟨_, rfl, .inl (congrArg (SO.ints true .i64) (selK_push hq hk7.symm))⟩, trivial⟩, rfl, pre_ok rfl, ⟨⟨_, rfl, rfl⟩, ⟨_, rfl, rfl⟩, ⟨_, rfl, rfl⟩, ⟨_, rfl, Eq.symm (val_congr (by omega))⟩, trivial⟩⟩
  · refine w_skip ?_
    repeat (with_reducible first | refine bl_n ?_ | refine bl_r ?_ | refine nx_r ?_ | refine nx_e ?_ | refine bl_e rfl ?_)
    refine round_normal rfl ?_
    refine rw_t 23 rfl rfl rfl (do_not rfl ?_)
    refine rw_nil ?_
    refine w_cond rfl (fun hc5 => ?_) (fun hc5 => ?_)
    · exfalso; first | (cases hc5; done) | exact (hc5 trivial) | (try simp only [bs] at hc5; first | omega | (simp_all; done) | (simp_all; omega))
    refine w_skip ?_
    -- region 2
    refine w_region ?_
    refine rw_t 18 rfl rfl rfl (do_move rfl ?_)
    refine rw_t 19 rfl rfl rfl (do_add rfl rfl (by omega) ?_)
    refine rw_t 4 rfl rfl rfl (do_assign rfl ?_)
    refine rw_nil ?_
    have hq : ¬ pusQ c p (((c.First.getD v 0).toNat + i : Nat) : Int) = true := fun q => hc3 (by have q' := of_decide_eq_true q; rw [hk7] at q'; obtain ⟨q1, q2⟩ := q'; rw [ht7.2.2] at q1 q2; exact ⟨q1, q2⟩)
    refine ⟨i + 1, [0, 1, 2, 3, 4, 5, 6, 7, 8, 9, 10, 11, 12, 13, 14, 15, 16, 17], by dsimp only; omega, by omega, ⟨.inr ⟨_, rfl, .inl rfl⟩, .inr ⟨_, rfl, .inl rfl⟩, .inr ⟨_, rfl, .inl rfl⟩, .inr ⟨_, rfl, .inl rfl⟩, .inr ⟨_, rfl, .inl rfl⟩, .inr ⟨_, rfl, .inl rfl⟩, .inr ⟨_, rfl, .inl rfl⟩, .inr ⟨_, rfl, .inl rfl⟩, .inr ⟨_, rfl, .inl rfl⟩, .inr ⟨_, rfl, .inl rfl⟩, .inr ⟨_, rfl, .inl rfl⟩, .inr ⟨_, rfl, .inl (box_congr (cons_congr (congrArg (fun n => SV.slc 17 0 n none) (by rw [selK_skip hq])) ((rfl : ([] : List SV) = []))))⟩, .inl rfl, .inr ⟨_, rfl, .inl rfl⟩, .inr ⟨_, rfl, .inl rfl⟩, .inr ⟨_, rfl, .inl rfl⟩, .inr ⟨_, rfl, .inl rfl⟩, .inr ⟨_, rfl, .inl (congrArg (SO.ints true .i64) (selK_skip hq))⟩, trivial⟩, rfl, pre_ok rfl, ⟨⟨_, rfl, rfl⟩, ⟨_, rfl, rfl⟩, ⟨_, rfl, rfl⟩, ⟨_, rfl, Eq.symm (val_congr (by omega))⟩, trivial⟩⟩
end Go.Proofs
