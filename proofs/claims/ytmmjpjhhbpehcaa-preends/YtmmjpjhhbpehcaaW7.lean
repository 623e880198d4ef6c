/- If nobody is active what is left is of a flow, T is not reached from S, and no flow is worth more. Part 7. -/
import Derived.Test.YtmmjpjhhbpehcaaW6
import Derived.ProofKit
import Derived.Carry
import Derived.SizedLaws
import Derived.Test.YtmmjpjhhbpehcaaRows
set_option linter.unusedVariables false
set_option linter.unusedSimpArgs false
set_option linter.unusedVariables false
namespace Go.Sx
open Go Go.RowKit Go.ChangeShapes

section read
variable {Hd : Type} {enc : TypeId × Value → Hd} {P : Program} {w : World} {base : Nat} {spare : Nat → Bool} {held : Bool}

theorem cells_get {a : Addr} {n : Nat} {cs : List Value} (h : w.cells? base a n = some cs) : cs.length = n ∧ ∀ i, i < n → w.cell? (a.add i) = cs[i]? := by
  unfold World.cells? at h
  split at h
  · have gen : ∀ (l : List Nat) (cs : List Value), (l.mapM fun i => w.cell? (a.add i)) = some cs → cs.length = l.length ∧ ∀ (k : Nat) (i : Nat), l[k]? = some i → w.cell? (a.add i) = cs[k]? := by
      intro l
      induction l with
      | nil => intro cs h; simp at h; subst h; simp
      | cons x l ih =>
        intro cs h
        rw [List.mapM_cons] at h
        cases hx : w.cell? (a.add x) with
        | none => rw [hx] at h; cases h
        | some v =>
          rw [hx] at h
          cases hl : (l.mapM fun i => w.cell? (a.add i)) with
          | none => rw [hl] at h; cases h
          | some vs =>
            rw [hl] at h
            have h' : some (v :: vs) = some cs := h
            simp only [Option.some.injEq] at h'
            subst h'
            obtain ⟨h1, h2⟩ := ih vs hl
            refine ⟨by simp [h1], fun k i hk => ?_⟩
            cases k with
            | zero => simp at hk; subst hk; simp [hx]
            | succ k => simpa using h2 k i (by simpa using hk)
    obtain ⟨h1, h2⟩ := gen _ cs h
    exact ⟨by simpa using h1, fun i hi => h2 i i (by simp [hi])⟩
  · cases h

theorem open_row {t el : TypeId} {α : Type} {e : α → List Value} {n : Nat} (dd : α) {good : α → Prop} {fuel : Nat} {cs : List Value} {x : DataW Hd × List MemPlace} (ht : P.underlying t = some (.slice el)) (hn : P.cellsOf el = n) (hn0 : 0 < n)
    (hlen : ∀ y, (e y).length = n) (hone : ∀ y, ∀ v ∈ e y, v.oneCell' = true)
    (R : ∀ fuel cs x, DataW.trod enc P w base (fun _ => true) held fuel el cs = some x → ∃ y : α, cs = e y ∧ good y) (h : DataW.trod enc P w base (fun _ => true) held fuel t cs = some x) :
    ∃ v xs io, cs = [v] ∧ (∀ y ∈ xs, good y) ∧ xs.length ≤ maxLen ∧ (∀ ρ, okO ρ w io (.arr α false n e dd xs)) ∧ ∀ (ρ : Rho) (o : Nat), ρ[o]? = some io → Rep ρ (.slc o 0 xs.length none) v := by
  have nil : ∀ ad, ∃ v xs io, [Value.slice ad 0 0] = [v] ∧ (∀ y ∈ xs, good y) ∧ xs.length ≤ maxLen ∧ (∀ ρ, okO ρ w io (.arr α false n e dd xs)) ∧ ∀ (ρ : Rho) (o : Nat), ρ[o]? = some io → Rep ρ (.slc o 0 xs.length none) v := by
    intro ad
    refine ⟨_, [], none, rfl, (fun y hy => by cases hy), by simp, fun ρ => ?_, fun ρ o _ => ?_⟩
    · simp only [okO]; exact ⟨hlen, hone, .inl trivial, fun I hI => by cases hI⟩
    · simp only [Rep]; exact .inr ⟨rfl, ⟨_, rfl⟩, fun k hk => by cases hk⟩
  rcases DataW.trod_slice ht h with ⟨h0, _⟩ | ⟨a, len, cap, elems, rest, m, _, h1, _, h3, h4, h5, h6, h7, h8, _⟩
  · subst h0; exact nil none
  · subst h1
    rcases Nat.eq_zero_or_pos cap with hc | hc
    · subst hc
      have : len = 0 := by omega
      subst this; exact nil _
    · obtain ⟨h8a, h8b⟩ := h8 rfl
      -- each element
      have each : ∀ i, i < len → ∃ cs y, w.cells? base (a.add (i * n)) n = some cs ∧ cs = e y ∧ good y := by
        intro i hi
        have h9 := h7 i hi
        rw [List.getElem?_eq_getElem (by omega), hn] at h9
        cases hcs : w.cells? base (a.add (i * n)) n with
        | none => rw [hcs] at h9; cases h9
        | some cs =>
          rw [hcs] at h9
          obtain ⟨y, q1, q2⟩ := R _ _ _ h9
          exact ⟨cs, y, rfl, q1, q2⟩
      -- the first place is there: its block, its address
      have first : ∃ v, w.cell? (a.add 0) = some v := by
        have some_at : ∀ z, w.cells? base (a.add 0) n = some z → ∃ v, w.cell? (a.add 0) = some v := by
          intro z hz
          obtain ⟨q1, q2⟩ := cells_get hz
          have := q2 0 hn0
          have h0 : (a.add 0).add 0 = a.add 0 := by
            unfold Addr.add; split <;> simp_all
          rw [h0] at this
          exact ⟨z[0]'(by omega), by rw [this]; simp⟩
        rcases Nat.eq_zero_or_pos len with hl | hl
        · subst hl
          have h9 := h8b 0 (by omega)
          rw [List.getElem?_eq_getElem (by omega), hn] at h9
          simp only [Nat.zero_add, Nat.zero_mul] at h9
          cases hcs : w.cells? base (a.add 0) n with
          | none => rw [hcs] at h9; cases h9
          | some z => exact some_at z hcs
        · obtain ⟨z, y, q1, _⟩ := each 0 hl
          rw [Nat.zero_mul] at q1
          exact some_at z q1
      obtain ⟨v0, hv0⟩ := first
      have hspot : a.spot = none := by
        have := World.cell?_spot hv0
        unfold Addr.add at this
        split at this <;> simp_all
      obtain ⟨b, o, s⟩ := a
      simp only at hspot
      subst hspot
      have hadd : ∀ k, (⟨b, o, none⟩ : Addr).add k = ⟨b, o + k, none⟩ := fun k => add_plain b o k
      have hb : b < w.heap.size := by
        have := block_of_cell hv0
        rw [hadd] at this; exact this
      have hch : ∀ m, m ≤ len → ∃ ys : List α, ys.length = m ∧ ∀ i (hi : i < ys.length), good ys[i] ∧ w.cells? base ⟨b, o + i * n, none⟩ n = some (e ys[i]) := by
        intro m
        induction m with
        | zero => intro _; exact ⟨[], rfl, fun i hi => by simp at hi⟩
        | succ m ih =>
          intro hm
          obtain ⟨ys, q1, q2⟩ := ih (by omega)
          obtain ⟨z, y, r1, r2, r3⟩ := each m (by omega)
          rw [hadd] at r1
          refine ⟨ys ++ [y], by simp [q1], fun i hi => ?_⟩
          rcases Nat.lt_or_ge i ys.length with h | h
          · rw [List.getElem_append_left h]; exact q2 i h
          · have : i = m := by simp at hi; omega
            subst this
            have hg : (ys ++ [y])[i] = y := by rw [List.getElem_append_right h]; simp
            rw [hg]
            exact ⟨r3, r2 ▸ r1⟩
      obtain ⟨ys, q1, q2⟩ := hch len (Nat.le_refl _)
      refine ⟨_, ys, some ⟨b, o, n, o + cap * n⟩, rfl, fun y hy => ?_, by omega, fun ρ => ?_, fun ρ o' ho => ?_⟩
      · obtain ⟨i, hi, rfl⟩ := List.mem_iff_getElem.1 hy
        exact (q2 i hi).1
      · simp only [okO]
        refine ⟨hlen, hone, .inr ⟨_, rfl⟩, fun I hI => ?_⟩
        simp only [Option.some.injEq] at hI
        subst hI
        refine ⟨rfl, hb, fun k f hk hf => ?_, fun hc => by cases hc⟩
        obtain ⟨r1, r2⟩ := cells_get (q2 k hk).2
        have := r2 f hf
        rw [add_plain] at this
        rw [← this, Nat.add_assoc]
      · simp only [Rep]
        refine .inl ⟨_, cap, ho, by rw [q1]; simp, by omega, by simp, fun k hk => by cases hk⟩
end read

/-- A state of rows that are only read. -/
theorem St.of_ro {ρ : Rho} {H : List SO} {w : World} (hl : ρ.length = H.length) (h : ∀ (o : Nat) (obj : SO) (io : Option Info), H[o]? = some obj → ρ[o]? = some io → okO ρ w io obj) (hro : noOwn H = true) : St ρ H w := by
  have no : ∀ (o : Nat) (x : SO), H[o]? = some x → x.own = false := by
    intro o x hx
    have gen : ∀ (H : List SO), noOwn H = true → ∀ (o : Nat) (x : SO), H[o]? = some x → x.own = false := by
      intro H
      induction H with
      | nil => intro _ o x h; simp at h
      | cons y H ih =>
        intro hh o x hx
        simp only [noOwn, Bool.and_eq_true, Bool.not_eq_true'] at hh
        cases o with
        | zero => simp at hx; subst hx; exact hh.1
        | succ o => exact ih hh.2 o x (by simpa using hx)
    exact gen H hro o x hx
  exact ⟨hl, h, (fun o o' I I' x x' _ _ h3 _ h5 => by rw [no o x h3] at h5; cases h5), (fun o o' I I' x x' _ _ h3 _ h5 => by rw [no o x h3] at h5; cases h5)⟩
theorem noOwnB {ρ : Rho} {H : List SO} (hro : noOwn H = true) {b : Nat} : ¬ OwnB ρ H b := by
  rintro ⟨o, I, x, h1, h2, h3, h4⟩
  have gen : ∀ (H : List SO), noOwn H = true → ∀ (o : Nat) (x : SO), H[o]? = some x → x.own = false := by
    intro H
    induction H with
    | nil => intro _ o x h; simp at h
    | cons y H ih =>
      intro hh o x hx
      simp only [noOwn, Bool.and_eq_true, Bool.not_eq_true'] at hh
      cases o with
      | zero => simp at hx; subst hx; exact hh.1
      | succ o => exact ih hh.2 o x (by simpa using hx)
  rw [gen H hro o x h2] at h3; cases h3

theorem below_all {Hd : Type} {enc : TypeId × Value → Hd} {P : Program} (hl : laidOutB P = true) {W W' : World} (hb : Below W.heap.size W W') :
    ∀ {ts : List TypeId} {vs : List Value} {ds : List (DataW Hd)} {ps : List MemPlace}, (∀ t ∈ ts, P.readableRec t = true ∧ t < P.types.size) → DataW.TrodAll enc P W 0 (fun _ => true) true ts vs ds ps → (∀ x ∈ ps, x.block < W.heap.size) →
      DataW.TrodAll enc P W' 0 (fun b => decide (b < W.heap.size)) true ts vs ds ps
  | [], vs, ds, ps, _, h, _ => by
    obtain ⟨rfl, rfl, rfl⟩ := trodAll_nil h
    exact rfl
  | t :: ts, vs, ds, ps, hts, h, hlt => by
    obtain ⟨v, vs', d, ds', p, q, rfl, rfl, rfl, h1, h2⟩ := trodAll_cons h
    have ht := hts t (by simp)
    exact ⟨p, q, Below.trod hl ht.1 ht.2 h1 hb (fun x hx => hlt x (by simp [hx])), below_all hl hb (fun t ht => hts t (by simp [ht])) h2 (fun x hx => hlt x (by simp [hx])), rfl⟩

/-- The end of a law: true, and the input as it was. -/
theorem close_law {Hd : Type} {enc : TypeId × Value → Hd} {P : Program} {f : FuncId} {fn : Func} {s : ChangeSpec} {W : World} {args : Array Value} {ds gs : List (DataW Hd)} {before : List MemPlace} {tb : TypeId} (hl : laidOutB P = true) (hvars : s.vars = [])
    (hfn : s.fn Hd ds = { results := [.lit (.bool true)], args := ds }) (hres : fn.resultTypes = #[tb]) (htb : P.underlying tb = some .bool) (hts : ∀ t ∈ fn.params.toList, P.readableRec t = true ∧ t < P.types.size)
    (hW : DataW.Whole enc P fn.params.toList s.vars false W args.toList ds gs before) {ρ : Rho} {H0 : List SO} (hno : noOwn H0 = true) (hc : CallsIn (Fr none) 0 P f args W (Ends ρ H0 W fun s _ => s = .val (.bool true))) :
    Calls P f args W fun e W' => ∃ v, e = .returned v ∧ s.post enc P fn false true false false W args v W' := by
  have hc' : Calls P f args W (Ends ρ H0 W fun s _ => s = .val (.bool true)) := callsIn_wide.1 hc
  refine hc'.mono ?_
  rintro e W' ⟨v, rfl, ρ', sv, H', h1, h2, h3, h4⟩
  subst h4
  simp only [Rep] at h1
  subst h1
  have hbelow : Below W.heap.size W W' := ⟨h3.os, h3.tape, h3.output, h3.size, fun b hb => h3.block b hb (noOwnB hno)⟩
  have hW' := hW
  obtain ⟨p, q, hA, hV, rfl, hfz, hnd⟩ := hW
  rw [hvars] at hV
  have hgs : gs = [] ∧ q = [] := by cases gs <;> simp [DataW.TrodVars] at hV; exact ⟨rfl, hV⟩
  obtain ⟨rfl, rfl⟩ := hgs
  have hlt : ∀ x ∈ p, x.block < W.heap.size := fun x hx => hW'.lt x (by simp [hx])
  refine ⟨_, rfl, ds, [], p ++ [], [], p, [], hW', ?_, ?_, ?_, hbelow.frame _, fun h => by cases h⟩
  · rw [List.append_nil, hfn, hres]
    exact trodAll_mk1 (shut_bool htb true)
  · rw [List.append_nil, hfn]
    exact below_all hl hbelow hts hA hlt
  · rw [List.append_nil, hfn, hvars]
    rfl
end Go.Sx
namespace Go.Sx
open Go Go.RowKit Go.ChangeShapes
theorem slice_self {P : Program} {W : World} {r : Reach} {base : Nat} {t el : TypeId} {v v' : Value} (ht : P.underlying t = some (.slice el)) (hv : Value.okWide P W r base t v) (hc : v.cells.toList = [v']) : v = v' := by
  simp only [Value.okWide, ht, Cell.okWide] at hv
  cases v <;> first | (simp [Value.cells] at hc; exact hc) | (simp [Cell.ok, ht] at hv)
theorem struct_self {P : Program} {W : World} {r : Reach} {base : Nat} {t : TypeId} {fs : Array Field} {v : Value} (ht : P.underlying t = some (.struct fs)) (hv : Value.okWide P W r base t v) : ∃ cs, v = .agg cs ∧ v.cells.toList = cs.toList := by
  simp only [Value.okWide, ht] at hv
  obtain ⟨cs, rfl, _⟩ := hv
  exact ⟨cs, rfl, rfl⟩
theorem wf64 {n : Int} (h : (Lit.int .i64 n).wf = true) : -9223372036854775808 ≤ n ∧ n < 9223372036854775808 := by
  have : -9223372036854775808 ≤ n ∧ n ≤ 9223372036854775807 := by simpa [Lit.wf, IntKind.min, IntKind.max, IntKind.signed, IntKind.bits] using h
  omega
theorem wf8 {n : Int} (h : (Lit.int .u8 n).wf = true) : 0 ≤ n ∧ n < 256 := by
  have : 0 ≤ n ∧ n ≤ 255 := by simpa [Lit.wf, IntKind.min, IntKind.max, IntKind.signed, IntKind.bits] using h
  omega
section
variable {Hd : Type} {enc : TypeId × Value → Hd} {P : Program} {w : World} {base : Nat} {spare : Nat → Bool} {held : Bool}
theorem fld {fs : Array Field} {xs : List (DataW Hd × List MemPlace)} {n : Nat} {cs : List Value} (hx : xs.length = fs.size) (hf : ∀ (i : Nat) (f : Field), fs[i]? = some f → DataW.trod enc P w base spare held n f.type ((cs.drop f.offset).take (P.cellsOf f.type)) = xs[i]?) (i : Nat) (f : Field) (hi : fs[i]? = some f) {o k : Nat} (ho : f.offset = o) (hk : P.cellsOf f.type = k) :
    ∃ y, DataW.trod enc P w base spare held n f.type ((cs.drop o).take k) = some y := by
  have h1 := hf i f hi
  have hlt : i < fs.size := (Array.getElem?_eq_some_iff.1 hi).1
  rw [List.getElem?_eq_getElem (by omega), ho, hk] at h1
  exact ⟨_, h1⟩
end
end Go.Sx
namespace Go.Sx
open Go
theorem join_cons {cs l rest : List Value} {o k : Nat} (h : (cs.drop o).take k = l) (hr : cs.drop (o + k) = rest) : cs.drop o = l ++ rest := by
  rw [← h, ← hr, ← List.drop_drop, List.take_append_drop]
theorem join_nil {cs : List Value} {n : Nat} (h : cs.length = n) : cs.drop n = [] := by subst h; simp
end Go.Sx

set_option linter.unusedVariables false
namespace Go.Sx
open Go Go.RowKit Go.ChangeShapes
section
variable {Hd : Type} {enc : TypeId × Value → Hd} {P : Program} {w : World} {base : Nat} {spare : Nat → Bool} {held : Bool}
end
end Go.Sx

set_option linter.unusedVariables false
set_option linter.unusedSimpArgs false
namespace Go.Proofs
open Go Go.Sx Go.RowKit Go.ChangeShapes
theorem Try.own : ownKnob Try.prog.godebug = none := by kernel_rfl
theorem Try.laidOut : laidOutB Try.prog = true := by kernel_rfl
theorem maxLen_eq {n : Nat} (h : n ≤ maxLen) : n ≤ 9223372036854775807 := h
def goodArc (a : Arc) : Prop := In64 a.frm ∧ In64 a.to ∧ In64 a.cap
theorem read_arc {Hd : Type} {enc : TypeId × Value → Hd} {w : World} {base : Nat} {spare : Nat → Bool} {held : Bool} {fuel : Nat} {cs : List Value} {x : DataW Hd × List MemPlace} (h : DataW.trod enc Try.prog w base spare held fuel 68 cs = some x) : ∃ y : Arc, cs = encArc y ∧ goodArc y := by
  obtain ⟨xs, n, -, -, hl, hx, hf⟩ := DataW.trod_struct u68 h
  have hl' : cs.length = 3 := hl.trans (by kernel_rfl)
  obtain ⟨y0, hy0⟩ := fld hx hf 0 _ rfl (o := 0) (k := 1) rfl (by kernel_rfl)
  obtain ⟨z0, e0, -, v0⟩ := DataW.trod_int (t := 3) u3 hy0
  have w0 := wf64 v0
  obtain ⟨y1, hy1⟩ := fld hx hf 1 _ rfl (o := 1) (k := 1) rfl (by kernel_rfl)
  obtain ⟨z1, e1, -, v1⟩ := DataW.trod_int (t := 3) u3 hy1
  have w1 := wf64 v1
  obtain ⟨y2, hy2⟩ := fld hx hf 2 _ rfl (o := 2) (k := 1) rfl (by kernel_rfl)
  obtain ⟨z2, e2, -, v2⟩ := DataW.trod_int (t := 2) u2 hy2
  have w2 := wf64 v2
  have hj : cs.drop 0 = _ := join_cons (o := 0) e0 (join_cons (o := 1) e1 (join_cons (o := 2) e2 (join_nil hl')))
  exact ⟨⟨z0, z1, z2⟩, hj, ⟨w0, w1, w2⟩⟩
def goodNet (n : Net) : Prop := (In64 n.N ∧ In64 n.S ∧ In64 n.T) ∧ (∀ a ∈ n.arcs, goodArc a) ∧ n.arcs.length ≤ maxLen
set_option maxRecDepth 100000 in
theorem read_net {Hd : Type} {enc : TypeId × Value → Hd} {W : World} {d : DataW Hd} {ps : List MemPlace} {v : Value} {r : Reach} {base : Nat} (hv : Value.okWide Try.prog W r base 24 v) (h : DataW.Trod enc Try.prog W 0 (fun _ => true) true 24 v d ps) :
    ∃ (n : Net) (io : Option Info), goodNet n ∧ (∀ ρ, okO ρ W io (SO.arcs false n.arcs)) ∧ ∀ (ρ : Rho) (o : Nat), ρ[o]? = some io → Rep ρ (n.sv o) v := by
  obtain ⟨a, rfl, hc⟩ := struct_self u24 hv
  obtain ⟨fuel, h⟩ := h
  rw [hc] at h
  obtain ⟨xs, n, -, -, hl, hx, hf⟩ := DataW.trod_struct u24 h
  have hl' : a.toList.length = 4 := hl.trans (by kernel_rfl)
  obtain ⟨y0, hy0⟩ := fld hx hf 0 _ rfl (o := 0) (k := 1) rfl (by kernel_rfl)
  obtain ⟨z0, e0, -, v0⟩ := DataW.trod_int (t := 3) u3 hy0
  obtain ⟨y1, hy1⟩ := fld hx hf 1 _ rfl (o := 1) (k := 1) rfl (by kernel_rfl)
  obtain ⟨z1, e1, -, v1⟩ := DataW.trod_int (t := 3) u3 hy1
  obtain ⟨y2, hy2⟩ := fld hx hf 2 _ rfl (o := 2) (k := 1) rfl (by kernel_rfl)
  obtain ⟨z2, e2, -, v2⟩ := DataW.trod_int (t := 3) u3 hy2
  obtain ⟨y3, hy3⟩ := fld hx hf 3 _ rfl (o := 3) (k := 1) rfl (by kernel_rfl)
  obtain ⟨sv, rs, io, e3, g1, g2, g3, g4⟩ := open_row (t := 22) (e := encArc) Arc.none u22 (n := 3) (by kernel_rfl) (by decide) (fun _ => rfl) (fun _ _ h => by simp [encArc] at h; rcases h with rfl | rfl | rfl <;> rfl) (fun _ _ _ h => read_arc h) hy3
  have hj : a.toList.drop 0 = _ := join_cons (o := 0) e0 (join_cons (o := 1) e1 (join_cons (o := 2) e2 (join_cons (o := 3) e3 (join_nil hl'))))
  refine ⟨⟨z0, z1, z2, rs⟩, io, ⟨⟨wf64 v0, wf64 v1, wf64 v2⟩, g1, g2⟩, g3, fun ρ o ho => ?_⟩
  simp only [Rep]
  refine ⟨a, rfl, ?_⟩
  rw [show a.toList = _ from hj]
  simp only [List.append_nil, List.cons_append, List.nil_append, Reps, Rep, and_true, true_and]
  have := g4 ρ o ho
  simp only [Rep] at this
  exact this
set_option maxRecDepth 100000 in
theorem read_row {Hd : Type} {enc : TypeId × Value → Hd} {W : World} {d : DataW Hd} {ps : List MemPlace} {v : Value} {r : Reach} {base : Nat} {t el n : Nat} {α : Type} {e : α → List Value} (dd : α) {good : α → Prop} (ht : Try.prog.underlying t = some (.slice el)) (hn : Try.prog.cellsOf el = n) (hn0 : 0 < n) (hlen : ∀ y, (e y).length = n) (hone : ∀ y, ∀ v ∈ e y, v.oneCell' = true)
    (R : ∀ fuel cs x, DataW.trod enc Try.prog W 0 (fun _ => true) true fuel el cs = some x → ∃ y : α, cs = e y ∧ good y) (hv : Value.okWide Try.prog W r base t v) (h : DataW.Trod enc Try.prog W 0 (fun _ => true) true t v d ps) :
    ∃ xs io, (∀ y ∈ xs, good y) ∧ xs.length ≤ maxLen ∧ (∀ ρ, okO ρ W io (.arr α false n e dd xs)) ∧ ∀ (ρ : Rho) (o : Nat), ρ[o]? = some io → Rep ρ (.slc o 0 xs.length none) v := by
  obtain ⟨fuel, h⟩ := h
  obtain ⟨sv, xs, io, q1, q2, q3, q4, q5⟩ := open_row dd ht hn hn0 hlen hone R h
  obtain rfl := slice_self ht hv q1
  exact ⟨xs, io, q2, q3, q4, q5⟩
theorem intOne (k : IntKind) : ∀ y, ∀ v ∈ encI k y, v.oneCell' = true := fun _ _ h => by simp [encI] at h; subst h; rfl
set_option maxRecDepth 100000 in
theorem read_u8 {Hd : Type} {enc : TypeId × Value → Hd} {w : World} {base : Nat} {spare : Nat → Bool} {held : Bool} {fuel : Nat} {cs : List Value} {x : DataW Hd × List MemPlace} (h : DataW.trod enc Try.prog w base spare held fuel 5 cs = some x) : ∃ y : Int, cs = encI .u8 y ∧ (0 ≤ y ∧ y < 256) := by
  obtain ⟨z, e, -, v⟩ := DataW.trod_int (t := 5) u5 h
  exact ⟨z, e, wf8 v⟩
set_option maxRecDepth 100000 in
theorem read_bytes {Hd : Type} {enc : TypeId × Value → Hd} {W : World} {d : DataW Hd} {ps : List MemPlace} {v : Value} {r : Reach} {base : Nat} (hv : Value.okWide Try.prog W r base 25 v) (h : DataW.Trod enc Try.prog W 0 (fun _ => true) true 25 v d ps) :
    ∃ (xs : List Int) (io : Option Info), (∀ y ∈ xs, 0 ≤ y ∧ y < 256) ∧ xs.length ≤ maxLen ∧ (∀ ρ, okO ρ W io (SO.ints false .u8 xs)) ∧ ∀ (ρ : Rho) (o : Nat), ρ[o]? = some io → Rep ρ (.slc o 0 xs.length none) v :=
  read_row 0 u25 (n := 1) (by kernel_rfl) (by decide) (fun _ => rfl) (intOne _) (fun _ _ _ h => read_u8 h) hv h
def goodPre (p : Pre) : Prop := ((∀ x ∈ p.Res, In64 x) ∧ (∀ x ∈ p.Ex, In64 x) ∧ (∀ x ∈ p.H, In64 x)) ∧ p.Res.length ≤ 17592186044416 ∧ p.Ex.length ≤ 17592186044416 ∧ p.H.length ≤ 17592186044416
end Go.Proofs

set_option linter.unusedVariables false
set_option linter.unusedSimpArgs false
namespace Go.Proofs
open Go Go.Sx Go.RowKit Go.ChangeShapes
set_option maxRecDepth 100000 in
/-- PreEnds: for every input that can be read it answers true, and the input reads as it did. -/
theorem preEnds_contract (Hd : Type) (enc : TypeId × Value → Hd) (W : World) (base : Nat) (args : Array Value) (ds gs : List (DataW Hd)) (before : List MemPlace)
    (hval : ∀ (j : Nat) t v, Try.f8.params[j]? = some t → args[j]? = some v → Value.okWide Try.prog W .any base t v)
    (hW : DataW.Whole enc Try.prog Try.f8.params.toList Ytmmjpjhhbpehcaa.Rows.preEndsSpec.vars false W args.toList ds gs before)
    (hsz : (DataW.weightsEach Try.prog (Try.f8.params.toList ++ Ytmmjpjhhbpehcaa.Rows.preEndsSpec.plain.varTypes Try.prog) (ds ++ gs)).all (· ≤ reachBytes) = true) :
    Calls Try.prog 8 args W fun e W' => ∃ v, e = .returned v ∧ Ytmmjpjhhbpehcaa.Rows.preEndsSpec.post enc Try.prog Try.f8 false true false false W args v W' := by
  have hW0 := hW
  obtain ⟨p, q, hA0, hV, rfl, hfz, hnd⟩ := hW0
  have hA : DataW.TrodAll enc Try.prog W 0 (fun _ => true) true [24, 25] args.toList ds p := hA0
  obtain ⟨v0, v1, d0, d1, pq0, pq1, rfl, rfl, rfl, h0, h1⟩ := trodAll_two hA
  obtain ⟨n, io0, ⟨n1, n2, n3⟩, o0, r0⟩ := read_net (hval 0 24 v0 rfl rfl) h0
  obtain ⟨l1, io1, b1, m1, o1, r1⟩ := read_bytes (hval 1 25 v1 rfl rfl) h1
  refine close_law (H0 := [SO.arcs false n.arcs, SO.ints false .u8 l1]) (ρ := [io0, io1]) (tb := 4) Try.laidOut rfl rfl rfl u4 (of_decide_eq_true (by kernel_rfl)) hW rfl ?_
  refine (t_PreEnds n n1 n2 (maxLen_eq n3) l1 (maxLen_eq m1) b1 [io0, io1] W [v0, v1] ?_ ?_).mono fun e w' h => h.mono fun s H' h => h.1
  · simp only [Reps, and_true]
    exact ⟨r0 _ _ rfl, r1 _ _ rfl⟩
  · refine St.of_ro rfl (fun o obj io h1 h2 => ?_) rfl
    match o, h1, h2 with
    | 0, h1, h2 => simp at h1 h2; subst h1; subst h2; exact o0 _
    | 1, h1, h2 => simp at h1 h2; subst h1; subst h2; exact o1 _
    | k + 2, h1, h2 => simp at h1
namespace Ytmmjpjhhbpehcaa
open Go.WideShapes Go.ChangeAt
set_option maxRecDepth 100000 in
theorem preEnds_lifted (os : Os) (started : os.Started) (H : Type) (enc : TypeId × Value → H) :
    ReturnsInHanded {} Try.checked os 8 .any (Rows.preEndsSpec.pre6 enc Try.prog Try.f8 Rows.preEndsRow.domain false) (Rows.preEndsSpec.post enc Try.prog Try.f8 false true false false) := by
  refine returnsInHanded_of_change_sized (C := Try.checked) Try.own started (by kernel_rfl) Try.func8
    (ChangeSpec.witness6 (enc := enc) (C := Try.checked) false ⟨#[], #[.agg #[.int .i64 0, .int .i64 0, .int .i64 0, .slice none 0 0], .slice none 0 0], []⟩ 8 (by kernel_rfl) (by kernel_rfl) (by kernel_rfl) (by kernel_rfl)) ?_
  intro W base args ds gs before hval hW _ hsz _
  exact preEnds_contract H enc W base args ds gs before hval hW hsz
theorem preEnds_holds : Rows.PreEndsSaid :=
  OpenClaim.holds_of_wide 8 Try.f8 rfl rfl rfl rfl rfl rfl rfl ⟨rfl, rfl, rfl, rfl, rfl⟩ rfl rfl rfl rfl rfl (by kernel_rfl) Try.func8 (by kernel_rfl)
    (of_decide_eq_true (by kernel_rfl)) (by unfold Func.isWrapper; first | (rw [if_pos (by decide +kernel)]; kernel_rfl) | (rw [if_neg (by decide +kernel)]; exact ⟨rfl, rfl⟩))
    (fun os started H enc _ => preEnds_lifted os started H enc)
end Ytmmjpjhhbpehcaa
end Go.Proofs
