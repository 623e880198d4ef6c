/- If nobody is active what is left is of a flow, T is not reached from S, and no flow is worth more. Part 1. -/
import Derived.WalkKit
import Derived.CallsIn
import Derived.TacticsIn
import Derived.OrdersIn
import Derived.Below
import Derived.Laws.Cells
import Derived.Laws.CopyRow
import Derived.Laws.Append
import Derived.Laws.AppendOwn
import Derived.Deep.Draws
import Derived.Laws.MakeOwn
import Derived.Laws.OwnMore
import Derived.RangeFuncCalls
import Derived.RangeFuncLeaves
import Derived.Great.BuildSlice
import Derived.IntWalk
set_option linter.unusedVariables false
set_option linter.unusedSimpArgs false
set_option linter.unusedVariables false
set_option linter.unusedSimpArgs false
namespace Go.Sx
open Go Go.RowKit

/-- Where an object lies: block, first cell, cells of an element, cells of the block. -/
structure Info where
  b : Nat
  base : Nat
  sz : Nat
  size : Nat
abbrev Rho := List (Option Info)

inductive SV : Type
  | val (x : Value)
  | ptr (o i f : Nat)
  | slc (o off len : Nat) (cap : Option Nat)
  | func (f : FuncId) (first captured : List SV)
  | agg (l : List SV)
  | tup (l : List SV)
  | map (o : Nat)
  | chan (o : Nat)
  | yield (o : Nat)

mutual
def Rep (ρ : Rho) : SV → Value → Prop
  | .val x, v => v = x
  | .ptr o i f, v => ∃ I, ρ[o]? = some (some I) ∧ v = .pointer (some ⟨I.b, I.base + (i * I.sz + f), none⟩)
  | .slc o off len cap, v =>
    (∃ I c, ρ[o]? = some (some I) ∧ v = .slice (some ⟨I.b, I.base + off * I.sz, none⟩) len c ∧ len ≤ c ∧ I.base + (off + c) * I.sz ≤ I.size ∧ ∀ k, cap = some k → c = k) ∨
    (len = 0 ∧ (∃ a, v = .slice a 0 0) ∧ ∀ k, cap = some k → k = 0)
  | .func f fs cs, v => ∃ a b, v = .func (.func f) a b ∧ Reps ρ fs a.toList ∧ Reps ρ cs b.toList
  | .agg l, v => ∃ a, v = .agg a ∧ Reps ρ l a.toList
  | .tup l, v => ∃ a, v = .tuple a ∧ Reps ρ l a.toList
  | .map o, v => ∃ I, ρ[o]? = some (some I) ∧ v = .map (some I.b)
  | .chan o, v => ∃ I, ρ[o]? = some (some I) ∧ v = .chan (some I.b)
  | .yield o, v => ∃ I, ρ[o]? = some (some I) ∧ v = .func (.yield I.b) #[] #[]
def Reps (ρ : Rho) : List SV → List Value → Prop
  | [], [] => True
  | s :: l, v :: vs => Rep ρ s v ∧ Reps ρ l vs
  | _, _ => False
end

/-- ρ' knows at least what ρ knows. -/
def Ext (ρ ρ' : Rho) : Prop := ∀ (o : Nat) (I : Info), ρ[o]? = some (some I) → ρ'[o]? = some (some I)
theorem Ext.refl (ρ : Rho) : Ext ρ ρ := fun _ _ h => h
theorem Ext.trans {a b c : Rho} (h : Ext a b) (k : Ext b c) : Ext a c := fun o I e => k o I (h o I e)
theorem Ext.append (ρ more : Rho) : Ext ρ (ρ ++ more) := fun o I h => by
  rw [List.getElem?_append_left (by exact (List.getElem?_eq_some_iff.1 h).1)]; exact h

mutual
theorem Rep.ext {ρ ρ' : Rho} (h : Ext ρ ρ') : ∀ (s : SV) (v : Value), Rep ρ s v → Rep ρ' s v
  | .val x, v, r => by simpa only [Rep] using r
  | .ptr o i f, v, r => by
    simp only [Rep] at r ⊢
    obtain ⟨I, h1, h2⟩ := r
    exact ⟨I, h _ _ h1, h2⟩
  | .slc o off len cap, v, r => by
    simp only [Rep] at r ⊢
    rcases r with ⟨I, c, h1, h2⟩ | r
    · exact .inl ⟨I, c, h _ _ h1, h2⟩
    · exact .inr r
  | .func f fs cs, v, r => by
    simp only [Rep] at r ⊢
    obtain ⟨a, b, h1, h2, h3⟩ := r
    exact ⟨a, b, h1, Reps.ext h fs _ h2, Reps.ext h cs _ h3⟩
  | .agg l, v, r => by
    simp only [Rep] at r ⊢
    obtain ⟨a, h1, h2⟩ := r
    exact ⟨a, h1, Reps.ext h l _ h2⟩
  | .tup l, v, r => by
    simp only [Rep] at r ⊢
    obtain ⟨a, h1, h2⟩ := r
    exact ⟨a, h1, Reps.ext h l _ h2⟩
  | .map o, v, r => by
    simp only [Rep] at r ⊢
    obtain ⟨I, h1, h2⟩ := r
    exact ⟨I, h _ _ h1, h2⟩
  | .chan o, v, r => by
    simp only [Rep] at r ⊢
    obtain ⟨I, h1, h2⟩ := r
    exact ⟨I, h _ _ h1, h2⟩
  | .yield o, v, r => by
    simp only [Rep] at r ⊢
    obtain ⟨I, h1, h2⟩ := r
    exact ⟨I, h _ _ h1, h2⟩
theorem Reps.ext {ρ ρ' : Rho} (h : Ext ρ ρ') : ∀ (l : List SV) (vs : List Value), Reps ρ l vs → Reps ρ' l vs
  | [], [], _ => by simp only [Reps]
  | s :: l, v :: vs, r => by
    simp only [Reps] at r ⊢
    exact ⟨Rep.ext h s v r.1, Reps.ext h l vs r.2⟩
  | [], _ :: _, r => by simp only [Reps] at r
  | _ :: _, [], r => by simp only [Reps] at r
end

theorem Reps.length {ρ : Rho} : ∀ {l : List SV} {vs : List Value}, Reps ρ l vs → l.length = vs.length
  | [], [], _ => rfl
  | s :: l, v :: vs, r => by
    simp only [Reps] at r
    simp [Reps.length r.2]
  | [], _ :: _, r => by simp only [Reps] at r
  | _ :: _, [], r => by simp only [Reps] at r
theorem Reps.get {ρ : Rho} : ∀ {l : List SV} {vs : List Value}, Reps ρ l vs → ∀ (i : Nat) (s : SV), l[i]? = some s → ∃ v, vs[i]? = some v ∧ Rep ρ s v
  | [], [], _, i, s, h => by simp at h
  | s :: l, v :: vs, r, i, s', h => by
    simp only [Reps] at r
    cases i with
    | zero => simp at h; subst h; exact ⟨v, by simp, r.1⟩
    | succ i => simp at h; obtain ⟨v', h1, h2⟩ := Reps.get r.2 i s' h; exact ⟨v', by simpa using h1, h2⟩
  | [], _ :: _, r, _, _, _ => by simp only [Reps] at r
  | _ :: _, [], r, _, _, _ => by simp only [Reps] at r
theorem Reps.append {ρ : Rho} : ∀ {l : List SV} {vs : List Value} {l' : List SV} {vs' : List Value}, Reps ρ l vs → Reps ρ l' vs' → Reps ρ (l ++ l') (vs ++ vs')
  | [], [], _, _, _, k => by simpa using k
  | s :: l, v :: vs, _, _, r, k => by
    simp only [Reps, List.cons_append] at r ⊢
    exact ⟨r.1, Reps.append r.2 k⟩
  | [], _ :: _, _, _, r, _ => by simp only [Reps] at r
  | _ :: _, [], _, _, r, _ => by simp only [Reps] at r
theorem Reps.take {ρ : Rho} : ∀ {l : List SV} {vs : List Value} (n : Nat), Reps ρ l vs → Reps ρ (l.take n) (vs.take n)
  | [], [], n, _ => by simp [Reps]
  | s :: l, v :: vs, n, r => by
    simp only [Reps] at r
    cases n with
    | zero => simp [Reps]
    | succ n => simp only [List.take_succ_cons, Reps]; exact ⟨r.1, Reps.take n r.2⟩
  | [], _ :: _, _, r => by simp only [Reps] at r
  | _ :: _, [], _, r => by simp only [Reps] at r
theorem Reps.drop {ρ : Rho} : ∀ {l : List SV} {vs : List Value} (n : Nat), Reps ρ l vs → Reps ρ (l.drop n) (vs.drop n)
  | [], [], n, _ => by simp [Reps]
  | s :: l, v :: vs, n, r => by
    cases n with
    | zero => simpa using r
    | succ n => simp only [Reps] at r; simpa using Reps.drop n r.2
  | [], _ :: _, _, r => by simp only [Reps] at r
  | _ :: _, [], _, r => by simp only [Reps] at r
theorem Reps.set {ρ : Rho} : ∀ {l : List SV} {vs : List Value} (n : Nat) {s : SV} {v : Value}, Reps ρ l vs → Rep ρ s v → Reps ρ (l.set n s) (vs.set n v)
  | [], [], n, _, _, _, _ => by simp [Reps]
  | s :: l, v :: vs, n, _, _, r, k => by
    simp only [Reps] at r
    cases n with
    | zero => simp only [List.set_cons_zero, Reps]; exact ⟨k, r.2⟩
    | succ n => simp only [List.set_cons_succ, Reps]; exact ⟨r.1, Reps.set n r.2 k⟩
  | [], _ :: _, _, _, _, r, _ => by simp only [Reps] at r
  | _ :: _, [], _, _, _, r, _ => by simp only [Reps] at r

/-- The objects: gone; a block of the walk's own, cell by cell; a row of elements without addresses (own: it may be written, and is nobody else's). -/
inductive SO : Type 1
  | dead
  | box (cs : List SV)
  | gen (cs : List SV) (q : List Value → Obj → Prop)
  | arr (α : Type) (own : Bool) (sz : Nat) (enc : α → List Value) (d : α) (xs : List α)
def SO.own : SO → Bool
  | .dead => false
  | .box _ => true
  | .gen _ _ => true
  | .arr _ own _ _ _ _ => own
abbrev encI (k : IntKind) : Int → List Value := fun x => [.int k x]
abbrev encB : Bool → List Value := fun x => [.bool x]
abbrev SO.ints (own : Bool) (k : IntKind) (xs : List Int) : SO := .arr Int own 1 (encI k) 0 xs
abbrev SO.bools (own : Bool) (xs : List Bool) : SO := .arr Bool own 1 encB false xs

/-- In the world w the row's cells are as said. -/
def Cells (w : World) (I : Info) {α : Type} (sz : Nat) (enc : α → List Value) (xs : List α) : Prop :=
  ∀ (k f : Nat) (hk : k < xs.length), f < sz → w.cell? ⟨I.b, I.base + (k * sz + f), none⟩ = (enc xs[k])[f]?

def okO (ρ : Rho) (w : World) (io : Option Info) : SO → Prop
  | .dead => True
  | .box cs => ∃ I vs t, io = some I ∧ I.base = 0 ∧ w.heap[I.b]? = some (.cells vs t (0, 0)) ∧ I.size = vs.size ∧ Reps ρ cs vs.toList
  | .gen cs q => ∃ I vs ob, io = some I ∧ I.base = 0 ∧ w.heap[I.b]? = some ob ∧ (q vs ob ∧ ∀ x, ob ≠ .deferred x) ∧ Reps ρ cs vs
  | .arr _ own sz enc _ xs => (∀ x, (enc x).length = sz) ∧ (∀ x, ∀ v ∈ enc x, v.oneCell' = true) ∧
      (xs = [] ∨ ∃ I, io = some I) ∧
      (∀ I, io = some I → I.sz = sz ∧ I.b < w.heap.size ∧ Cells w I sz enc xs ∧
        (own = true → ∃ vs t, w.heap[I.b]? = some (.cells vs t (0, 0)) ∧ I.size = vs.size))

/-- Block b is one of the walk's own. -/
def OwnB (ρ : Rho) (H : List SO) (b : Nat) : Prop := ∃ (o : Nat) (I : Info) (obj : SO), ρ[o]? = some (some I) ∧ H[o]? = some obj ∧ obj.own = true ∧ I.b = b

structure St (ρ : Rho) (H : List SO) (w : World) : Prop where
  len : ρ.length = H.length
  ok : ∀ (o : Nat) (obj : SO) (io : Option Info), H[o]? = some obj → ρ[o]? = some io → okO ρ w io obj
  inj : ∀ (o o' : Nat) (I I' : Info) (x x' : SO), ρ[o]? = some (some I) → ρ[o']? = some (some I') → H[o]? = some x → H[o']? = some x' → x.own = true → x'.own = true → I.b = I'.b → o = o'
  ro : ∀ (o o' : Nat) (I I' : Info) (x x' : SO), ρ[o]? = some (some I) → ρ[o']? = some (some I') → H[o]? = some x → H[o']? = some x' → x.own = true → x'.own = false → (∀ h : x' = .dead, False) → I.b ≠ I'.b

/-- What a stretch of the walk does to the world: only its own blocks are written; what it owns then it owned, or it is new. -/
structure Ev (ρ : Rho) (H : List SO) (w : World) (ρ' : Rho) (H' : List SO) (w' : World) : Prop where
  pre : ρ <+: ρ'
  size : w.heap.size ≤ w'.heap.size
  os : w'.os = w.os
  tape : w'.tape = w.tape
  output : w'.output = w.output
  block : ∀ b, b < w.heap.size → ¬ OwnB ρ H b → w'.heap[b]? = w.heap[b]?
  own : ∀ b, OwnB ρ' H' b → OwnB ρ H b ∨ w.heap.size ≤ b
theorem Ext.of_pre {ρ ρ' : Rho} (h : ρ <+: ρ') : Ext ρ ρ' := by
  obtain ⟨m, rfl⟩ := h
  exact Ext.append _ _
theorem Ev.ext {ρ ρ' : Rho} {H H' : List SO} {w w' : World} (h : Ev ρ H w ρ' H' w') : Ext ρ ρ' := Ext.of_pre h.pre
theorem Ev.refl (ρ : Rho) (H : List SO) (w : World) : Ev ρ H w ρ H w := ⟨List.prefix_refl _, Nat.le_refl _, rfl, rfl, rfl, fun _ _ _ => rfl, fun _ h => .inl h⟩
theorem Ev.trans {ρ ρ' ρ'' : Rho} {H H' H'' : List SO} {w w' w'' : World} (h : Ev ρ H w ρ' H' w') (k : Ev ρ' H' w' ρ'' H'' w'') : Ev ρ H w ρ'' H'' w'' where
  pre := h.pre.trans k.pre
  size := Nat.le_trans h.size k.size
  os := k.os.trans h.os
  tape := k.tape.trans h.tape
  output := k.output.trans h.output
  block := fun b hb ho => by
    rw [k.block b (Nat.lt_of_lt_of_le hb h.size) (fun hc => by rcases h.own b hc with hc | hc; exact ho hc; omega)]
    exact h.block b hb ho
  own := fun b hb => by
    rcases k.own b hb with hb | hb
    · exact h.own b hb
    · exact .inr (Nat.le_trans h.size hb)
end Go.Sx

set_option linter.unusedVariables false
set_option linter.unusedSimpArgs false
namespace Go.Sx
open Go Go.RowKit

abbrev Env := List (Nat × SV)
def Env.get : Env → Nat → Option SV
  | [], _ => none
  | (j, v) :: l, i => bif Nat.beq i j then some v else Env.get l i
theorem Env.get_cons (j : Nat) (v : SV) (l : Env) (i : Nat) : Env.get ((j, v) :: l) i = if i = j then some v else Env.get l i := by
  show (bif Nat.beq i j then some v else Env.get l i) = _
  by_cases h : i = j
  · subst h; simp
  · have : Nat.beq i j = false := by
      cases hb : Nat.beq i j with
      | false => rfl
      | true => exact (h (Nat.eq_of_beq_eq_true hb)).elim
    rw [this, if_neg h]; rfl
def ev (e : Env) : Operand → Option SV
  | .tmp t => e.get t
  | .const v => some (.val v)
  | .func f => some (.func f [] [])
  | .global _ => none
def evs (e : Env) : List Operand → Option (List SV)
  | [] => some []
  | x :: l => match ev e x, evs e l with
    | some v, some vs => some (v :: vs)
    | _, _ => none
def putO (e : Env) (d : Option Tmp) (v : SV) : Env := match d with | some t => (t, v) :: e | none => e

def EnvOK (ρ : Rho) (e : Env) (a : Act) : Prop := ∀ (t : Nat) (v : SV), e.get t = some v → Rep ρ v (a.tmps.getD t undef)
theorem EnvOK.ext {ρ ρ' : Rho} {e : Env} {a : Act} (h : EnvOK ρ e a) (k : Ext ρ ρ') : EnvOK ρ' e a := fun t v hv => Rep.ext k _ _ (h t v hv)
theorem EnvOK.ev {ρ : Rho} {e : Env} {a : Act} (h : EnvOK ρ e a) {x : Operand} {s : SV} (hx : ev e x = some s) : Rep ρ s (a.eval x) := by
  cases x with
  | tmp t => exact h t s hx
  | const v => simp only [Sx.ev, Option.some.injEq] at hx; subst hx; simp only [Rep, Act.eval]
  | func f => simp only [Sx.ev, Option.some.injEq] at hx; subst hx; simp only [Rep, Act.eval]; exact ⟨#[], #[], rfl, by simp [Reps], by simp [Reps]⟩
  | global g => simp [Sx.ev] at hx
theorem EnvOK.evs {ρ : Rho} {e : Env} {a : Act} (h : EnvOK ρ e a) : ∀ {l : List Operand} {vs : List SV}, evs e l = some vs → Reps ρ vs (l.map a.eval)
  | [], vs, hx => by simp only [Sx.evs, Option.some.injEq] at hx; subst hx; simp [Reps]
  | x :: l, vs, hx => by
    simp only [Sx.evs] at hx
    split at hx
    · rename_i v vs' h1 h2
      simp only [Option.some.injEq] at hx
      subst hx
      simp only [List.map_cons, Reps]
      exact ⟨h.ev h1, h.evs h2⟩
    · cases hx
theorem EnvOK.put {ρ : Rho} {e : Env} {a : Act} {s : SV} {v : Value} (h : EnvOK ρ e a) (hv : Rep ρ s v) (d : Option Tmp) (hd : ∀ t, d = some t → t < a.tmps.size) : EnvOK ρ (putO e d s) (a.put d v) := by
  cases d with
  | none => exact h
  | some d =>
    intro t u hu
    have hlt := hd d rfl
    simp only [putO, Env.get_cons] at hu
    simp only [Act.put]
    by_cases htd : t = d
    · subst htd
      simp only [↓reduceIte, Option.some.injEq] at hu
      subst hu
      simp [Array.getD, hlt]
      exact hv
    · rw [if_neg htd] at hu
      have := h t u hu
      have e2 : (a.tmps.setIfInBounds d v).getD t undef = a.tmps.getD t undef := by
        simp only [Array.getD_eq_getD_getElem?, Array.getElem?_setIfInBounds]
        rw [if_neg (fun hc => htd hc.symm)]
      rw [e2]; exact this

/-- The fence of all our walks: every function; 'r': the round of a range over a function in which the walk is, if any. -/
def Fr (r : Option Nat) : Fence := { Fence.wide with round := r }
theorem Fr.fn (r : Option Nat) (f : FuncId) : (Fr r).fn f := trivial
theorem Fr.depth (r : Option Nat) : (Fr r).depth.isSome = true → 1 ≤ 0 := fun h => by simp [Fr, Fence.wide] at h

/-- What an operation may leave, said of symbolic values. -/
def Left (ρ : Rho) (H : List SO) (w : World) (K : SV → List SO → Prop) (v : Value) (w' : World) : Prop :=
  ∃ ρ' s H', Rep ρ' s v ∧ St ρ' H' w' ∧ Ev ρ H w ρ' H' w' ∧ K s H'
def Ends (ρ : Rho) (H : List SO) (w : World) (K : SV → List SO → Prop) (e : Ending) (w' : World) : Prop :=
  ∃ v, e = .returned v ∧ Left ρ H w K v w'

/-- An operation, walked in a symbolic state. -/
def OpDo (P : Program) (r : Option Nat) (o : Oper) (e : Env) (H : List SO) (K : SV → List SO → Prop) : Prop :=
  (∀ c, o.op ≠ .defer c) ∧ ∀ ρ a w, EnvOK ρ e a → St ρ H w → ∃ n w', (execOp a.eval o).run P w = .ok n w' ∧
    match n with
    | .value v => Left ρ H w K v w'
    | .skip => Left ρ H w K undef w'
    | .enter f args => w' = w ∧ CallsIn (Fr none) 0 P f args w (Ends ρ H w K)
    | .round l f tmps assign body => w' = w ∧ RoundIn (Fr none) 0 P l f tmps assign body w (Ends ρ H w K)
    | _ => False

theorem OpDo.mono {P : Program} {r : Option Nat} {o : Oper} {e : Env} {H : List SO} {K K' : SV → List SO → Prop} (h : OpDo P r o e H K) (hk : ∀ s H', K s H' → K' s H') : OpDo P r o e H K' := by
  refine ⟨h.1, fun ρ a w he hs => ?_⟩
  obtain ⟨n, w', hr, hn⟩ := h.2 ρ a w he hs
  refine ⟨n, w', hr, ?_⟩
  cases n <;> simp only at hn ⊢
  case value v => obtain ⟨ρ', s, H', a1, a2, a3, a4⟩ := hn; exact ⟨ρ', s, H', a1, a2, a3, hk _ _ a4⟩
  case skip => obtain ⟨ρ', s, H', a1, a2, a3, a4⟩ := hn; exact ⟨ρ', s, H', a1, a2, a3, hk _ _ a4⟩
  case enter f args =>
    refine ⟨hn.1, hn.2.mono ?_⟩
    rintro e w2 ⟨v, hv, ρ', s, H', a1, a2, a3, a4⟩
    exact ⟨v, hv, ρ', s, H', a1, a2, a3, hk _ _ a4⟩
  case round l f tmps assign body =>
    refine ⟨hn.1, hn.2.mono ?_⟩
    rintro e w2 ⟨v, hv, ρ', s, H', a1, a2, a3, a4⟩
    exact ⟨v, hv, ρ', s, H', a1, a2, a3, hk _ _ a4⟩

/-- A pure operation: one value, the world as it was. -/
theorem OpDo.pure {P : Program} {r : Option Nat} {o : Oper} {e : Env} {H : List SO} {K : SV → List SO → Prop} {s : SV} (hd : ∀ c, o.op ≠ .defer c)
    (h : ∀ ρ a w, EnvOK ρ e a → St ρ H w → ∃ v, (execOp a.eval o).run P w = .ok (.value v) w ∧ Rep ρ s v) (k : K s H) : OpDo P r o e H K := by
  refine ⟨hd, fun ρ a w he hs => ?_⟩
  obtain ⟨v, hr, hv⟩ := h ρ a w he hs
  exact ⟨_, _, hr, ρ, s, H, hv, hs, Ev.refl _ _ _, k⟩

section pure
variable {P : Program} {r : Option Nat} {d : Option Tmp} {t : TypeId} {ps : String} {af : Array Edge} {g : Option (Nat × Bool)} {e : Env} {H : List SO} {K : SV → List SO → Prop}
theorem do_move {x : Operand} {s : SV} (h : ev e x = some s) (k : K s H) : OpDo P r ⟨d, .move x, t, ps, af, g⟩ e H K :=
  .pure (by simp) (fun ρ a w he hs => ⟨_, rfl, he.ev h⟩) k
theorem do_assign {x : Operand} {s : SV} (h : ev e x = some s) (k : K s H) : OpDo P r ⟨d, .assign x, t, ps, af, g⟩ e H K :=
  .pure (by simp) (fun ρ a w he hs => ⟨_, rfl, he.ev h⟩) k
theorem do_pick_t {c x y : Operand} {s : SV} {b : Bool} (h : ev e c = some (.val (.bool b))) (hb : b = true) (hx : ev e x = some s) (k : K s H) : OpDo P r ⟨d, .pick c x y, t, ps, af, g⟩ e H K :=
  .pure (by simp) (fun ρ a w he hs => by
    have h1 := he.ev h; simp only [Rep] at h1
    exact ⟨_, by simp [execOp, h1, hb, asBool], he.ev hx⟩) k
theorem do_pick_f {c x y : Operand} {s : SV} {b : Bool} (h : ev e c = some (.val (.bool b))) (hb : b = false) (hx : ev e y = some s) (k : K s H) : OpDo P r ⟨d, .pick c x y, t, ps, af, g⟩ e H K :=
  .pure (by simp) (fun ρ a w he hs => by
    have h1 := he.ev h; simp only [Rep] at h1
    exact ⟨_, by simp [execOp, h1, hb, asBool], he.ev hx⟩) k

def binI (op : BinOp) (k : IntKind) (a b : Int) : Option Value :=
  match op with
  | .add => some (.int k (k.wrap (a + b)))
  | .sub => some (.int k (k.wrap (a - b)))
  | .mul => some (.int k (k.wrap (a * b)))
  | .eql => some (.bool (a == b))
  | .neq => some (.bool (a != b))
  | .lss => some (.bool (decide (a < b)))
  | .leq => some (.bool (decide (a ≤ b)))
  | .gtr => some (.bool (decide (a > b)))
  | .geq => some (.bool (decide (a ≥ b)))
  | _ => none
theorem do_bin {op : BinOp} {xt yt : TypeId} {x y : Operand} {k0 : IntKind} {a0 b0 : Int} {v : Value} (hx : ev e x = some (.val (.int k0 a0))) (hy : ev e y = some (.val (.int k0 b0)))
    (hv : binI op k0 a0 b0 = some v) (k : K (.val v) H) : OpDo P r ⟨d, .binOp op xt x y yt, t, ps, af, g⟩ e H K :=
  .pure (by simp) (fun ρ a w he hs => by
    have h1 := he.ev hx; have h2 := he.ev hy; simp only [Rep] at h1 h2
    refine ⟨v, ?_, by simp only [Rep]⟩
    cases op <;> simp only [binI, Option.some.injEq, reduceCtorEq] at hv <;> subst hv <;> simp [execOp, h1, h2, eqGuard, binOp, Op.intArith, Op.intCmp]) k
theorem do_quo {xt yt : TypeId} {x y : Operand} {k0 : IntKind} {a0 b0 : Int} (hx : ev e x = some (.val (.int k0 a0))) (hy : ev e y = some (.val (.int k0 b0)))
    (hb : b0 ≠ 0) (k : K (.val (.int k0 (k0.wrap (a0.tdiv b0)))) H) : OpDo P r ⟨d, .binOp .quo xt x y yt, t, ps, af, g⟩ e H K :=
  .pure (by simp) (fun ρ a w he hs => by
    have h1 := he.ev hx; have h2 := he.ev hy; simp only [Rep] at h1 h2
    exact ⟨.int k0 (k0.wrap (a0.tdiv b0)), by simp [execOp, h1, h2, eqGuard, binOp, Op.intDiv, hb], by simp only [Rep]⟩) k
theorem do_rem {xt yt : TypeId} {x y : Operand} {k0 : IntKind} {a0 b0 : Int} (hx : ev e x = some (.val (.int k0 a0))) (hy : ev e y = some (.val (.int k0 b0)))
    (hb : b0 ≠ 0) (k : K (.val (.int k0 (a0.tmod b0))) H) : OpDo P r ⟨d, .binOp .rem xt x y yt, t, ps, af, g⟩ e H K :=
  .pure (by simp) (fun ρ a w he hs => by
    have h1 := he.ev hx; have h2 := he.ev hy; simp only [Rep] at h1 h2
    exact ⟨.int k0 (a0.tmod b0), by simp [execOp, h1, h2, eqGuard, binOp, Op.intDiv, hb], by simp only [Rep]⟩) k
theorem do_not {xt : TypeId} {x : Operand} {b : Bool} (hx : ev e x = some (.val (.bool b))) (k : K (.val (.bool (!b))) H) : OpDo P r ⟨d, .unOp .not xt x, t, ps, af, g⟩ e H K :=
  .pure (by simp) (fun ρ a w he hs => by
    have h1 := he.ev hx; simp only [Rep] at h1
    exact ⟨.bool (!b), by simp [execOp, h1, Op.unary], by simp only [Rep]⟩) k
theorem do_neg {xt : TypeId} {x : Operand} {k0 : IntKind} {n : Int} (hx : ev e x = some (.val (.int k0 n))) (k : K (.val (.int k0 (k0.wrap (0 - n)))) H) : OpDo P r ⟨d, .unOp .neg xt x, t, ps, af, g⟩ e H K :=
  .pure (by simp) (fun ρ a w he hs => by
    have h1 := he.ev hx; simp only [Rep] at h1
    exact ⟨.int k0 (k0.wrap (0 - n)), by simp [execOp, h1, Op.unary, Op.intArith], by simp only [Rep]⟩) k
theorem do_extract {x : Operand} {i : Nat} {l : List SV} {s : SV} (hx : ev e x = some (.tup l)) (hi : l[i]? = some s) (k : K s H) : OpDo P r ⟨d, .extract x i, t, ps, af, g⟩ e H K :=
  .pure (by simp) (fun ρ a w he hs => by
    have h1 := he.ev hx; simp only [Rep] at h1
    obtain ⟨vs, h1, h2⟩ := h1
    obtain ⟨v, h3, h4⟩ := h2.get i s hi
    refine ⟨v, ?_, h4⟩
    have : vs[i]? = some v := by simpa using h3
    simp [execOp, h1, Instr.extract, this]) k
theorem do_nilcheck {x : Operand} {o i f : Nat} (hx : ev e x = some (.ptr o i f)) (k : K (.ptr o i f) H) : OpDo P r ⟨d, .nilCheck x, t, ps, af, g⟩ e H K :=
  .pure (by simp) (fun ρ a w he hs => by
    have h1 := he.ev hx
    have h0 := h1
    simp only [Rep] at h1
    obtain ⟨I, h1, h2⟩ := h1
    exact ⟨_, by simp [execOp, h2], h2 ▸ h0⟩) k
theorem do_makefunc {f : FuncId} {first cap : Array Operand} {fs cs : List SV} (hf : evs e first.toList = some fs) (hc : evs e cap.toList = some cs) (k : K (.func f fs cs) H) :
    OpDo P r ⟨d, .makeFunc (.func f) first cap, t, ps, af, g⟩ e H K :=
  .pure (by simp) (fun ρ a w he hs => by
    refine ⟨.func (.func f) (first.map a.eval) (cap.map a.eval), by simp [execOp, Instr.makeFunc], ?_⟩
    simp only [Rep]
    refine ⟨_, _, rfl, ?_, ?_⟩
    · simpa using he.evs hf
    · simpa using he.evs hc) k
end pure

/-! ### The program's types -/
class TyOff (P : Program) (t : TypeId) (f : Nat) (k : outParam Nat) : Prop where
  out : ∃ fs fd, P.underlying t = some (.struct fs) ∧ fs[f]? = some fd ∧ fd.offset = k ∧ ∃ i, P.info? fd.type = some i ∧ i.size ≠ 0
class TyAgg (P : Program) (t : TypeId) (n : outParam Nat) : Prop where
  out : ((∃ fs, P.underlying t = some (.struct fs)) ∨ ∃ m el, P.underlying t = some (.array m el)) ∧ ∃ i, P.info? t = some i ∧ i.size = n
class TyOne (P : Program) (t : TypeId) : Prop where
  out : (∃ u, P.underlying t = some u ∧ (∀ fs, u ≠ .struct fs) ∧ ∀ n e, u ≠ .array n e) ∧ ∃ i, P.info? t = some i ∧ i.size = 1
class TySl (P : Program) (t : TypeId) (el : outParam TypeId) (n : outParam Nat) (by_ : outParam Nat) (z : outParam (List Value)) : Prop where
  out : P.underlying t = some (.slice el) ∧ ∃ i zv, P.info? el = some i ∧ i.size = n ∧ i.bytes = by_ ∧ n ≠ 0 ∧ i.zero = some zv ∧ zv.cells = z.toArray ∧ z.length = n
class TyZero (P : Program) (t : TypeId) (z : outParam Value) : Prop where
  out : ∃ i, P.info? t = some i ∧ i.zero = some z
class TyInt (P : Program) (t : TypeId) (k : outParam IntKind) : Prop where
  out : P.underlying t = some (.int k)

theorem run_under {P : Program} {w : World} {t : TypeId} {u : TypeDesc} (h : P.underlying t = some u) : (underlying t).run P w = .ok u w := by simp [underlying, h]
theorem run_info {P : Program} {w : World} {t : TypeId} {i : TypeInfo} (h : P.info? t = some i) : (typeInfo t).run P w = .ok i w := by simp [typeInfo, h]
theorem run_size {P : Program} {w : World} {t : TypeId} {i : TypeInfo} (h : P.info? t = some i) : (sizeOf t).run P w = .ok i.size w := by simp [sizeOf, run_info h]
theorem run_zero {P : Program} {w : World} {t : TypeId} {i : TypeInfo} {z : Value} (h : P.info? t = some i) (hz : i.zero = some z) : (zeroValue t).run P w = .ok z w := by simp [zeroValue, run_info h, hz]

section addr
variable {P : Program} {r : Option Nat} {d : Option Tmp} {t : TypeId} {ps : String} {af : Array Edge} {g : Option (Nat × Bool)} {e : Env} {H : List SO} {K : SV → List SO → Prop}
theorem add_plain (b o n : Nat) : (⟨b, o, none⟩ : Addr).add n = ⟨b, o + n, none⟩ := by unfold Addr.add; split <;> simp_all
theorem do_fieldaddr {s : TypeId} {x : Operand} {f o i g0 k0 : Nat} [hT : TyOff P s f k0] (hx : ev e x = some (.ptr o i g0)) (k : K (.ptr o i (g0 + k0)) H) :
    OpDo P r ⟨d, .fieldAddr s x f, t, ps, af, g⟩ e H K :=
  .pure (by simp) (fun ρ a w he hs => by
    have h1 := he.ev hx; simp only [Rep] at h1
    obtain ⟨I, h1, h2⟩ := h1
    obtain ⟨fs, fd, q1, q2, q3, i', q4, q5⟩ := hT.out
    refine ⟨.pointer (some ⟨I.b, I.base + (i * I.sz + (g0 + k0)), none⟩), ?_, ?_⟩
    · simp [execOp, Instr.fieldAt, run_under q1, q2, h2, Instr.sureAddr, fieldPlace, run_size q4, q5, add_plain, q3, Nat.add_assoc]
    · simp only [Rep]; exact ⟨I, h1, rfl⟩) k
theorem do_indexaddr {s : TypeId} {x y : Operand} {el : TypeId} {n by_ o off len : Nat} {z : List Value} {cap : Option Nat} {k0 : IntKind} {i : Int} [hT : TySl P s el n by_ z] (hx : ev e x = some (.slc o off len cap)) (hy : ev e y = some (.val (.int k0 i)))
    (hsz : ∀ α own sz enc dd xs, H[o]? = some (.arr α own sz enc dd xs) → sz = n) (hob : ∃ α own sz enc dd xs, H[o]? = some (.arr α own sz enc dd xs))
    (h0 : 0 ≤ i) (h1 : i < len) (k : K (.ptr o (off + i.toNat) 0) H) : OpDo P r ⟨d, .indexAddr s x y, t, ps, af, g⟩ e H K :=
  .pure (by simp) (fun ρ a w he hs => by
    have q1 := he.ev hx; have q2 := he.ev hy; simp only [Rep] at q1 q2
    obtain ⟨t1, i', zv, t2, t3, t4, t5, _⟩ := hT.out
    rcases q1 with ⟨I, c, q3, q4, q5, q6, q7⟩ | ⟨q3, _⟩
    · obtain ⟨α, own, sz, enc, dd, xs, hob⟩ := hob
      have hn := hsz _ _ _ _ _ _ hob
      have hk := hs.ok o _ _ hob q3
      simp only [okO] at hk
      have hI := (hk.2.2.2 I rfl).1
      refine ⟨.pointer (some ⟨I.b, I.base + ((off + i.toNat) * I.sz + 0), none⟩), ?_, ?_⟩
      · have e1 : I.base + off * I.sz + i.toNat * n = I.base + ((off + i.toNat) * I.sz + 0) := by rw [hI, hn, Nat.add_mul]; omega
        simp [execOp, Instr.indexAt, q2, asIntOf, run_under t1, q4, h0, h1, run_size t2, add_plain, t3, e1]
      · simp only [Rep]; exact ⟨I, q3, rfl⟩
    · exfalso; omega) k
end addr
end Go.Sx

set_option linter.unusedVariables false
set_option linter.unusedSimpArgs false
namespace Go.Sx
open Go Go.RowKit

theorem cell_of_block {w w' : World} {a : Addr} (h : w'.heap[a.block]? = w.heap[a.block]?) : w'.cell? a = w.cell? a := by simp only [World.cell?, h]
theorem cell_at {w : World} {b o : Nat} {vs : Array Value} {t : TypeId} {fr : Nat × Nat} (h : w.heap[b]? = some (.cells vs t fr)) : w.cell? ⟨b, o, none⟩ = vs[o]? := by simp [World.cell?, h]
theorem frozen_at {w : World} {b o : Nat} {vs : Array Value} {t : TypeId} (h : w.heap[b]? = some (.cells vs t (0, 0))) : w.frozen? ⟨b, o, none⟩ = false := by simp [World.frozen?, h]
theorem block_of_cell {w : World} {a : Addr} {v : Value} (h : w.cell? a = some v) : a.block < w.heap.size := World.block_lt_of_cell? w a h

/-- A live object's block is there (an empty row that is nobody's own aside). -/
theorem okO.lt {ρ : Rho} {w : World} {I : Info} {obj : SO} (h : okO ρ w (some I) obj) (ho : obj.own = true) : I.b < w.heap.size := by
  cases obj with
  | dead => simp [SO.own] at ho
  | box cs =>
    simp only [okO] at h
    obtain ⟨I', vs, t, h1, h2, h3, h4, h5⟩ := h
    simp only [Option.some.injEq] at h1
    subst h1
    exact (Array.getElem?_eq_some_iff.1 h3).1
  | gen cs q =>
    simp only [okO] at h
    obtain ⟨I', vs, t, h1, h2, h3, h4, h5⟩ := h
    simp only [Option.some.injEq] at h1
    subst h1
    exact (Array.getElem?_eq_some_iff.1 h3).1
  | arr α own sz enc d xs =>
    simp only [okO] at h
    exact (h.2.2.2 I rfl).2.1

/-- Of an object that is no one's own: it is kept wherever its cells are. -/
theorem okO.keep {ρ ρ' : Rho} {w w' : World} {io : Option Info} {obj : SO} (h : okO ρ w io obj) (he : Ext ρ ρ') (hsz : w.heap.size ≤ w'.heap.size) (hb : ∀ I, io = some I → obj ≠ .dead → I.b < w.heap.size → w'.heap[I.b]? = w.heap[I.b]?) : okO ρ' w' io obj := by
  cases obj with
  | dead => trivial
  | box cs =>
    simp only [okO] at h ⊢
    obtain ⟨I, vs, t, h1, h2, h3, h4, h5⟩ := h
    exact ⟨I, vs, t, h1, h2, (hb I h1 (by simp) (Array.getElem?_eq_some_iff.1 h3).1).trans h3, h4, Reps.ext he _ _ h5⟩
  | gen cs q =>
    simp only [okO] at h ⊢
    obtain ⟨I, vs, t, h1, h2, h3, h4, h5⟩ := h
    exact ⟨I, vs, t, h1, h2, (hb I h1 (by simp) (Array.getElem?_eq_some_iff.1 h3).1).trans h3, h4, Reps.ext he _ _ h5⟩
  | arr α own sz enc d xs =>
    simp only [okO] at h ⊢
    obtain ⟨h1, h1', h2, h3⟩ := h
    refine ⟨h1, h1', h2, fun I hI => ?_⟩
    obtain ⟨h4, h4', h5, h6⟩ := h3 I hI
    have hbb := hb I hI (by simp) h4'
    refine ⟨h4, Nat.lt_of_lt_of_le h4' hsz, fun k f hk hf => (cell_of_block hbb).trans (h5 k f hk hf), fun ho => ?_⟩
    obtain ⟨vs, t, q2, q3⟩ := h6 ho
    exact ⟨vs, t, hbb.trans q2, q3⟩

theorem St.ownB_lt {ρ : Rho} {H : List SO} {w : World} (h : St ρ H w) {b : Nat} (hb : OwnB ρ H b) : b < w.heap.size := by
  obtain ⟨o, I, obj, h1, h2, h3, h4⟩ := hb
  rw [← h4]
  exact (h.ok o obj (some I) h2 h1).lt h3

/-- A world with the same heap. -/
theorem St.heap {ρ : Rho} {H : List SO} {w w' : World} (h : St ρ H w) (e : w'.heap = w.heap) : St ρ H w' :=
  ⟨h.len, fun o obj io a b => (h.ok o obj io a b).keep (Ext.refl _) (by rw [e]; exact Nat.le_refl _) (fun I _ _ _ => by rw [e]), h.inj, h.ro⟩
theorem Ev.heap {ρ : Rho} {H : List SO} {w w' : World} (e : w'.heap = w.heap) (h1 : w'.os = w.os) (h2 : w'.tape = w.tape) (h3 : w'.output = w.output) : Ev ρ H w ρ H w' :=
  ⟨List.prefix_refl _, by rw [e]; exact Nat.le_refl _, h1, h2, h3, fun b _ _ => by rw [e], fun _ h => .inl h⟩

theorem get_snoc {α : Type _} {l : List α} {x y : α} {i : Nat} (h : (l ++ [x])[i]? = some y) : (i < l.length ∧ l[i]? = some y) ∨ (i = l.length ∧ x = y) := by
  rcases Nat.lt_or_ge i l.length with hi | hi
  · rw [List.getElem?_append_left hi] at h
    exact .inl ⟨hi, h⟩
  · rw [List.getElem?_append_right hi] at h
    have : i - l.length = 0 := by
      rcases Nat.eq_zero_or_pos (i - l.length) with h0 | h0
      · exact h0
      · rw [List.getElem?_eq_none (by simp; omega)] at h; cases h
    rw [this] at h
    simp at h
    exact .inr ⟨by omega, h⟩

/-- A new block of cells: a new object. -/
theorem St.newG {ρ : Rho} {H : List SO} {w : World} (h : St ρ H w) {ob : Obj} {obj : SO} {sz n : Nat} (hown : obj.own = true)
    (hok : okO (ρ ++ [some ⟨w.heap.size, 0, sz, n⟩]) (w.alloc ob) (some ⟨w.heap.size, 0, sz, n⟩) obj) :
    St (ρ ++ [some ⟨w.heap.size, 0, sz, n⟩]) (H ++ [obj]) (w.alloc ob) ∧ Ev ρ H w (ρ ++ [some ⟨w.heap.size, 0, sz, n⟩]) (H ++ [obj]) (w.alloc ob) := by
  have hold : ∀ b, b < w.heap.size → (w.alloc ob).heap[b]? = w.heap[b]? := fun b hb => Below.heap_alloc w _ b hb
  have hlen := h.len
  constructor
  · refine ⟨by simp [hlen], fun o x io hx hio => ?_, fun o o' I I' x x' q1 q2 q3 q4 q5 q6 q7 => ?_, fun o o' I I' x x' q1 q2 q3 q4 q5 q6 q7 q8 => ?_⟩
    · rcases get_snoc hx with ⟨h1, h2⟩ | ⟨h1, h2⟩ <;> rcases get_snoc hio with ⟨h3, h4⟩ | ⟨h3, h4⟩
      · exact (h.ok o x io h2 h4).keep (Ext.append _ _) (by simp) (fun I _ _ hb => hold I.b hb)
      · omega
      · omega
      · subst h2; rw [← h4]; exact hok
    · rcases get_snoc q1 with ⟨a1, a2⟩ | ⟨a1, a2⟩ <;> rcases get_snoc q2 with ⟨b1, b2⟩ | ⟨b1, b2⟩ <;> rcases get_snoc q3 with ⟨c1, c2⟩ | ⟨c1, c2⟩ <;> rcases get_snoc q4 with ⟨d1, d2⟩ | ⟨d1, d2⟩
      all_goals try omega
      · exact h.inj o o' I I' x x' a2 b2 c2 d2 q5 q6 q7
      · exfalso
        have := (h.ok o x (some I) c2 a2).lt q5
        simp only [Option.some.injEq] at b2
        subst b2
        simp at q7
        omega
      · exfalso
        have := (h.ok o' x' (some I') d2 b2).lt q6
        simp only [Option.some.injEq] at a2
        subst a2
        simp at q7
        omega
    · rcases get_snoc q1 with ⟨a1, a2⟩ | ⟨a1, a2⟩ <;> rcases get_snoc q2 with ⟨b1, b2⟩ | ⟨b1, b2⟩ <;> rcases get_snoc q3 with ⟨c1, c2⟩ | ⟨c1, c2⟩ <;> rcases get_snoc q4 with ⟨d1, d2⟩ | ⟨d1, d2⟩
      all_goals try omega
      · exact h.ro o o' I I' x x' a2 b2 c2 d2 q5 q6 q7 q8
      · subst d2; rw [hown] at q6; cases q6
      · have hk := h.ok o' x' (some I') d2 b2
        have hlt : I'.b < w.heap.size := by
          cases x' with
          | dead => exact (q7 rfl).elim
          | box cs => simp [SO.own] at q6
          | gen cs q => simp [SO.own] at q6
          | arr α own sz enc d xs => simp only [okO] at hk; exact (hk.2.2.2 I' rfl).2.1
        simp only [Option.some.injEq] at a2
        subst a2
        simp at q8
        omega
      · subst c2; subst d2; rw [q5] at q6; cases q6
  · refine ⟨List.prefix_append _ _, by simp, rfl, rfl, rfl, fun b hb _ => hold b hb, fun b hb => ?_⟩
    obtain ⟨o, I, x, h1, h2, h3, h4⟩ := hb
    rcases get_snoc h1 with ⟨a1, a2⟩ | ⟨a1, a2⟩ <;> rcases get_snoc h2 with ⟨b1, b2⟩ | ⟨b1, b2⟩
    · exact .inl ⟨o, I, x, a2, b2, h3, h4⟩
    · omega
    · omega
    · right
      simp only [Option.some.injEq] at a2
      subst a2
      simp at h4
      omega
theorem St.new {ρ : Rho} {H : List SO} {w : World} (h : St ρ H w) {vs : Array Value} {t : TypeId} {obj : SO} {sz : Nat} (hown : obj.own = true)
    (hok : okO (ρ ++ [some ⟨w.heap.size, 0, sz, vs.size⟩]) (w.alloc (.cells vs t)) (some ⟨w.heap.size, 0, sz, vs.size⟩) obj) :
    St (ρ ++ [some ⟨w.heap.size, 0, sz, vs.size⟩]) (H ++ [obj]) (w.alloc (.cells vs t)) ∧ Ev ρ H w (ρ ++ [some ⟨w.heap.size, 0, sz, vs.size⟩]) (H ++ [obj]) (w.alloc (.cells vs t)) := h.newG hown hok
end Go.Sx

set_option linter.unusedVariables false
set_option linter.unusedSimpArgs false
namespace Go.Sx
open Go Go.RowKit

theorem get_set {α : Type _} {l : List α} {x y : α} {i j : Nat} (h : (l.set i x)[j]? = some y) : (j = i ∧ x = y ∧ i < l.length) ∨ (j ≠ i ∧ l[j]? = some y) := by
  rw [List.getElem?_set] at h
  split at h
  · rename_i e
    split at h
    · simp only [Option.some.injEq] at h; exact .inl ⟨e.symm, h, by assumption⟩
    · cases h
  · rename_i e; exact .inr ⟨fun k => e k.symm, h⟩

theorem St.put {ρ : Rho} {H : List SO} {w w' : World} (h : St ρ H w) {o : Nat} {I : Info} {x x' : SO} (hρ : ρ[o]? = some (some I)) (hH : H[o]? = some x) (hx : x.own = true) (hx' : x'.own = true ∨ x' = .dead)
    (hheap : ∀ b, b ≠ I.b → w'.heap[b]? = w.heap[b]?) (hs : w'.heap.size = w.heap.size) (hok : okO ρ w' (some I) x') : St ρ (H.set o x') w' := by
  refine ⟨by simp [h.len], fun o2 y io hy hio => ?_, fun o1 o2 I1 I2 y1 y2 a1 a2 b1 b2 c1 c2 d => ?_, fun o1 o2 I1 I2 y1 y2 a1 a2 b1 b2 c1 c2 c3 d => ?_⟩
  · rcases get_set hy with ⟨e, e2, _⟩ | ⟨hne, hy⟩
    · subst e; subst e2
      rw [hρ] at hio
      simp only [Option.some.injEq] at hio
      subst hio
      exact hok
    · refine (h.ok o2 y io hy hio).keep (Ext.refl _) (by omega) fun I2 hI2 hd _ => hheap _ ?_
      subst hI2
      intro e
      cases ho : y.own with
      | true => exact hne (h.inj o2 o I2 I y x hio hρ hy hH ho hx e)
      | false => exact h.ro o o2 I I2 x y hρ hio hH hy hx ho hd e.symm
  · have own : ∀ (o1 : Nat) (y1 : SO), (H.set o x')[o1]? = some y1 → y1.own = true → ∃ z, H[o1]? = some z ∧ z.own = true := by
      intro o1 y1 b1 c1
      rcases get_set b1 with ⟨e, e2, _⟩ | ⟨hne, hy⟩
      · exact ⟨x, e ▸ hH, hx⟩
      · exact ⟨y1, hy, c1⟩
    obtain ⟨z1, q1, q2⟩ := own o1 y1 b1 c1
    obtain ⟨z2, q3, q4⟩ := own o2 y2 b2 c2
    exact h.inj o1 o2 I1 I2 z1 z2 a1 a2 q1 q3 q2 q4 d
  · have own : ∀ (o1 : Nat) (y1 : SO), (H.set o x')[o1]? = some y1 → y1.own = true → ∃ z, H[o1]? = some z ∧ z.own = true := by
      intro o1 y1 b1 c1
      rcases get_set b1 with ⟨e, e2, _⟩ | ⟨hne, hy⟩
      · exact ⟨x, e ▸ hH, hx⟩
      · exact ⟨y1, hy, c1⟩
    obtain ⟨z1, q1, q2⟩ := own o1 y1 b1 c1
    rcases get_set b2 with ⟨e, e2, _⟩ | ⟨hne, hy⟩
    · subst e2
      rcases hx' with hx' | hx'
      · rw [hx'] at c2; cases c2
      · exact c3 hx'
    · exact h.ro o1 o2 I1 I2 z1 y2 a1 a2 q1 hy q2 c2 c3 d

theorem Ev.put {ρ : Rho} {H : List SO} {w w' : World} {o : Nat} {I : Info} {x x' : SO} (hρ : ρ[o]? = some (some I)) (hH : H[o]? = some x) (hx : x.own = true)
    (hheap : ∀ b, b ≠ I.b → w'.heap[b]? = w.heap[b]?) (hs : w'.heap.size = w.heap.size) (h1 : w'.os = w.os) (h2 : w'.tape = w.tape) (h3 : w'.output = w.output) : Ev ρ H w ρ (H.set o x') w' := by
  refine ⟨List.prefix_refl _, by omega, h1, h2, h3, fun b _ hb => hheap b fun e => hb ⟨o, I, x, hρ, hH, hx, e.symm⟩, fun b hb => .inl ?_⟩
  obtain ⟨o1, I1, y, q1, q2, q3, q4⟩ := hb
  rcases get_set q2 with ⟨e, e2, _⟩ | ⟨hne, hy⟩
  · subst e
    exact ⟨o1, I1, x, q1, hH, hx, q4⟩
  · exact ⟨o1, I1, y, q1, hy, q3, q4⟩

theorem okO.box_at {ρ : Rho} {w : World} {I : Info} {cs : List SV} (h : okO ρ w (some I) (.box cs)) : ∃ vs t, I.base = 0 ∧ w.heap[I.b]? = some (.cells vs t (0, 0)) ∧ I.size = vs.size ∧ Reps ρ cs vs.toList := by
  simp only [okO] at h
  obtain ⟨I', vs, t, h1, h2, h3, h4, h5⟩ := h
  simp only [Option.some.injEq] at h1
  subst h1
  exact ⟨vs, t, h2, h3, h4, h5⟩

/-- A pointer's address in a box. -/
theorem St.boxptr {ρ : Rho} {H : List SO} {w : World} (hs : St ρ H w) {o f : Nat} {cs : List SV} {v : Value} (ho : H[o]? = some (.box cs)) (hv : Rep ρ (.ptr o 0 f) v) :
    ∃ I vs t, ρ[o]? = some (some I) ∧ v = .pointer (some ⟨I.b, f, none⟩) ∧ w.heap[I.b]? = some (.cells vs t (0, 0)) ∧ Reps ρ cs vs.toList ∧ I.base = 0 ∧ I.size = vs.size := by
  simp only [Rep] at hv
  obtain ⟨I, h1, h2⟩ := hv
  obtain ⟨vs, t, q1, q2, q3, q4⟩ := okO.box_at (hs.ok o _ _ ho h1)
  exact ⟨I, vs, t, h1, by rw [h2]; simp [q1], q2, q4, q1, q3⟩

theorem run_isAgg_one {P : Program} {w : World} {t : TypeId} (h : ∃ u, P.underlying t = some u ∧ (∀ fs, u ≠ .struct fs) ∧ ∀ n e, u ≠ .array n e) : (isAgg t).run P w = .ok false w := by
  obtain ⟨u, h1, h2, h3⟩ := h
  simp only [isAgg, Sem.run_bind, run_under h1, Result.andThen_ok]
  cases u <;> simp_all
theorem run_isAgg_agg {P : Program} {w : World} {t : TypeId} (h : (∃ fs, P.underlying t = some (.struct fs)) ∨ ∃ m el, P.underlying t = some (.array m el)) : (isAgg t).run P w = .ok true w := by
  rcases h with ⟨fs, h1⟩ | ⟨m, el, h1⟩
  · simp only [isAgg, Sem.run_bind, run_under h1, Result.andThen_ok, Sem.run_pure]
  · simp only [isAgg, Sem.run_bind, run_under h1, Result.andThen_ok, Sem.run_pure]

section mem
variable {P : Program} {r : Option Nat} {d : Option Tmp} {t : TypeId} {ps : String} {af : Array Edge} {g : Option (Nat × Bool)} {e : Env} {H : List SO} {K : SV → List SO → Prop}

theorem do_load_box {T : TypeId} {x : Operand} {o f : Nat} {cs : List SV} {s : SV} [hT : TyOne P T] (hx : ev e x = some (.ptr o 0 f)) (ho : H[o]? = some (.box cs)) (hf : cs[f]? = some s) (k : K s H) :
    OpDo P r ⟨d, .load T x, t, ps, af, g⟩ e H K :=
  .pure (by simp) (fun ρ a w he hs => by
    obtain ⟨I, vs, tt, h1, h2, h3, h4, h5, h6⟩ := hs.boxptr ho (he.ev hx)
    obtain ⟨v, h7, h8⟩ := h4.get f s hf
    refine ⟨v, ?_, h8⟩
    have hc : w.cell? ⟨I.b, f, none⟩ = some v := by rw [cell_at h3]; simpa using h7
    simp [execOp, Instr.loadAt, h2, Instr.sureAddr, loadVar, run_isAgg_one hT.out.1, hc]) k

theorem do_load_boxagg {T : TypeId} {x : Operand} {o f n : Nat} {cs : List SV} [hT : TyAgg P T n] (hx : ev e x = some (.ptr o 0 f)) (ho : H[o]? = some (.box cs)) (hf : f + n ≤ cs.length) (k : K (.agg ((cs.drop f).take n)) H) :
    OpDo P r ⟨d, .load T x, t, ps, af, g⟩ e H K :=
  .pure (by simp) (fun ρ a w he hs => by
    obtain ⟨I, vs, tt, h1, h2, h3, h4, h5, h6⟩ := hs.boxptr ho (he.ev hx)
    obtain ⟨i, q1, q2⟩ := hT.out.2
    have hl := h4.length
    refine ⟨.agg ((vs.toList.drop f).take n).toArray, ?_, ?_⟩
    · have hn : ((vs.toList.drop f).take n).length = n := by rw [List.length_take, List.length_drop]; omega
      have hr := run_loadCells_list (P := P) w ⟨I.b, f, none⟩ ((vs.toList.drop f).take n) (fun j v hj => by
        rw [add_plain, cell_at h3]
        rw [List.getElem?_take] at hj
        split at hj
        · rw [List.getElem?_drop] at hj; simpa using hj
        · cases hj)
      rw [hn] at hr
      simp only [execOp, Instr.loadAt, h2, Instr.sureAddr, loadVar, Sem.run_bind, Sem.run_pure, Result.andThen_ok, run_isAgg_agg hT.out.1, if_true, run_size q1, q2, hr]
    · simp only [Rep]; exact ⟨_, rfl, by simpa using (h4.drop f).take n⟩) k

theorem setCell_at {w : World} {b o : Nat} {vs : Array Value} {t : TypeId} {v : Value} (h : w.heap[b]? = some (.cells vs t (0, 0))) :
    (w.setCell ⟨b, o, none⟩ v).heap[b]? = some (.cells (vs.setIfInBounds o v) t (0, 0)) := by
  simp [World.setCell, Array.getElem?_modify, h]
theorem setCell_other {w : World} {a : Addr} {v : Value} {b : Nat} (h : b ≠ a.block) : (w.setCell a v).heap[b]? = w.heap[b]? := Below.heap_setCell w a v b h

def SV.plain : SV → Bool
  | .agg _ | .tup _ => false
  | .val v => v.oneCell'
  | _ => true
theorem Rep.one {ρ : Rho} {s : SV} {v : Value} (h : Rep ρ s v) (hp : s.plain = true) : v.oneCell' = true := by
  cases s <;> simp only [Rep] at h <;> simp only [SV.plain, Bool.false_eq_true] at hp
  case val x => rw [h]; exact hp
  case ptr => obtain ⟨I, _, rfl⟩ := h; rfl
  case slc => rcases h with ⟨I, c, _, rfl, _⟩ | ⟨_, ⟨a, rfl⟩, _⟩ <;> rfl
  case func => obtain ⟨a, b, rfl, _⟩ := h; rfl
  case map => obtain ⟨I, _, rfl⟩ := h; rfl
  case chan => obtain ⟨I, _, rfl⟩ := h; rfl
  case yield => obtain ⟨I, _, rfl⟩ := h; rfl
theorem cells_one {v : Value} (h : v.oneCell' = true) : v.cells = #[v] := by cases v <;> simp_all [Value.cells, Value.oneCell']

theorem do_store_box {T : TypeId} {x y : Operand} {o f : Nat} {cs : List SV} {s : SV} [hT : TyOne P T] (hx : ev e x = some (.ptr o 0 f)) (hy : ev e y = some s) (ho : H[o]? = some (.box cs)) (hf : f < cs.length) (hp : s.plain = true)
    (k : K (.val undef) (H.set o (.box (cs.set f s)))) : OpDo P r ⟨d, .store T x y, t, ps, af, g⟩ e H K := by
  refine ⟨by simp, fun ρ a w he hs => ?_⟩
  obtain ⟨I, vs, tt, h1, h2, h3, h4, h5, h6⟩ := hs.boxptr ho (he.ev hx)
  have hv := he.ev hy
  have hone := hv.one hp
  obtain ⟨i, q1, q2⟩ := hT.out.2
  have hl := h4.length
  have hlt : f < vs.size := by rw [← Array.length_toList, ← hl]; exact hf
  have hc : w.cell? ⟨I.b, f, none⟩ = some vs[f] := by rw [cell_at h3]; simp [hlt]
  have hput := setCell_at (o := f) (v := a.eval y) h3
  refine ⟨.skip, w.setCell ⟨I.b, f, none⟩ (a.eval y), ?_, ρ, _, _, ?_, hs.put h1 ho rfl (.inl rfl) (fun b hb => setCell_other hb) (by simp) ?_, Ev.put h1 ho rfl (fun b hb => setCell_other hb) (by simp) rfl rfl rfl, k⟩
  · simp [execOp, Instr.storeAt, h2, Instr.sureAddr, storeVar, run_size q1, q2, cells_one hone, storeCells, run_store, hone, hc, frozen_at h3, add_plain]
  · simp only [Rep]
  · simp only [okO]
    refine ⟨I, _, tt, rfl, h5, hput, by simpa using h6, ?_⟩
    rw [Array.toList_setIfInBounds]
    exact h4.set f hv

theorem do_store_boxagg {T : TypeId} {x y : Operand} {o f n : Nat} {cs l : List SV} [hT : TyAgg P T n] (hx : ev e x = some (.ptr o 0 f)) (hy : ev e y = some (.agg l)) (ho : H[o]? = some (.box cs)) (hf : f + l.length ≤ cs.length) (hn : l.length = n)
    (hp : ∀ s ∈ l, s.plain = true) (k : K (.val undef) (H.set o (.box (cs.take f ++ l ++ cs.drop (f + l.length))))) : OpDo P r ⟨d, .store T x y, t, ps, af, g⟩ e H K := by
  refine ⟨by simp, fun ρ a w he hs => ?_⟩
  obtain ⟨I, vs, tt, h1, h2, h3, h4, h5, h6⟩ := hs.boxptr ho (he.ev hx)
  have hv := he.ev hy
  simp only [Rep] at hv
  obtain ⟨av, hv1, hv2⟩ := hv
  obtain ⟨i, q1, q2⟩ := hT.out.2
  have hl := h4.length
  have hl2 := hv2.length
  have hone : ∀ v ∈ av.toList, v.oneCell' = true := by
    have : ∀ (l : List SV) (vs : List Value), Reps ρ l vs → (∀ s ∈ l, s.plain = true) → ∀ v ∈ vs, v.oneCell' = true := by
      intro l
      induction l with
      | nil => intro vs hr _ v hv; cases vs with
        | nil => cases hv
        | cons => simp only [Reps] at hr
      | cons s l ih => intro vs hr hp v hv; cases vs with
        | nil => cases hv
        | cons u vs =>
          simp only [Reps] at hr
          rcases List.mem_cons.1 hv with rfl | hv
          · exact hr.1.one (hp s (by simp))
          · exact ih vs hr.2 (fun s hs => hp s (by simp [hs])) v hv
    exact this l _ hv2 hp
  have hfit : f + 0 + av.toList.length ≤ vs.size := by rw [← Array.length_toList (xs := vs)]; omega
  have hst := run_storeCells_at P I.b f tt av.toList 0 vs w h3 hfit hone
  have hrow := setRow_heap w I.b vs (vs.toList.take (f + 0) ++ av.toList ++ vs.toList.drop (f + 0 + av.toList.length)).toArray tt _ h3
  have hother : ∀ b, b ≠ I.b → (w.setRow I.b (vs.toList.take (f + 0) ++ av.toList ++ vs.toList.drop (f + 0 + av.toList.length)).toArray).heap[b]? = w.heap[b]? := fun b hb => setRow_other w I.b b _ hb
  refine ⟨.skip, _, ?_, ρ, _, _, ?_, hs.put h1 ho rfl (.inl rfl) hother (by simp) ?_, Ev.put h1 ho rfl hother (by simp) rfl rfl rfl, k⟩
  · have hsz : av.size = i.size := by rw [q2, ← hn, hl2]; simp
    have hst' : (storeCells ⟨I.b, f, none⟩ av.toList).run P w = .ok () (w.setRow I.b (vs.toList.take (f + 0) ++ av.toList ++ vs.toList.drop (f + 0 + av.toList.length)).toArray) := hst
    simp only [execOp, Instr.storeAt, h2, Instr.sureAddr, storeVar, Sem.run_bind, Sem.run_pure, Result.andThen_ok, run_size q1, hv1, Value.cells, hsz, ne_eq, not_true_eq_false, if_false, hst']
  · simp only [Rep]
  · simp only [okO]
    refine ⟨I, _, tt, rfl, h5, hrow, ?_, ?_⟩
    · have e1 : av.size = av.toList.length := by simp
      have e2 : vs.size = vs.toList.length := by simp
      rw [h6]; simp only [List.size_toArray, List.length_append, List.length_take, List.length_drop]; omega
    · simp only [Nat.add_zero, hl2]
      exact ((h4.take f).append hv2).append (by rw [← hl2]; exact h4.drop _)

/-! ### Rows -/
theorem Cells.get {w : World} {I : Info} {α : Type} {sz : Nat} {enc : α → List Value} {xs : List α} (h : Cells w I sz enc xs) (hl : ∀ x, (enc x).length = sz) {i f : Nat} (hi : i < xs.length) (dd : α) {v : Value} (hf : (enc (xs.getD i dd))[f]? = some v) :
    w.cell? ⟨I.b, I.base + (i * sz + f), none⟩ = some v := by
  have e1 : xs.getD i dd = xs[i] := by simp [List.getD, hi]
  rw [e1] at hf
  have hlt : f < sz := by rw [← hl xs[i]]; exact (List.getElem?_eq_some_iff.1 hf).1
  rw [h i f hi hlt, hf]

theorem do_load_arr {T : TypeId} {x : Operand} {o i f : Nat} {α : Type} {own : Bool} {sz : Nat} {enc : α → List Value} {dd : α} {xs : List α} {v : Value} [hT : TyOne P T] (hx : ev e x = some (.ptr o i f)) (ho : H[o]? = some (.arr α own sz enc dd xs))
    (hi : i < xs.length) (hf : (enc (xs.getD i dd))[f]? = some v) (k : K (.val v) H) : OpDo P r ⟨d, .load T x, t, ps, af, g⟩ e H K :=
  .pure (by simp) (fun ρ a w he hs => by
    have hv := he.ev hx
    simp only [Rep] at hv
    obtain ⟨I, h1, h2⟩ := hv
    have hk := hs.ok o _ _ ho h1
    simp only [okO] at hk
    obtain ⟨q1, _, q2, q3⟩ := hk
    obtain ⟨q4, _, q5, _⟩ := q3 I rfl
    have hc := q5.get q1 hi dd hf
    rw [← q4] at hc
    exact ⟨v, by simp [execOp, Instr.loadAt, h2, Instr.sureAddr, loadVar, run_isAgg_one hT.out.1, hc], by simp only [Rep]⟩) k

theorem reps_vals {ρ : Rho} : ∀ (l : List Value), Reps ρ (l.map .val) l
  | [] => by simp [Reps]
  | v :: l => by simp only [List.map_cons, Reps, Rep, true_and]; exact reps_vals l

theorem do_load_arragg {T : TypeId} {x : Operand} {o i n : Nat} {α : Type} {own : Bool} {sz : Nat} {enc : α → List Value} {dd : α} {xs : List α} [hT : TyAgg P T n] (hx : ev e x = some (.ptr o i 0)) (ho : H[o]? = some (.arr α own sz enc dd xs))
    (hn : n = sz) (hi : i < xs.length) (k : K (.agg ((enc (xs.getD i dd)).map .val)) H) : OpDo P r ⟨d, .load T x, t, ps, af, g⟩ e H K :=
  .pure (by simp) (fun ρ a w he hs => by
    have hv := he.ev hx
    simp only [Rep] at hv
    obtain ⟨I, h1, h2⟩ := hv
    have hk := hs.ok o _ _ ho h1
    simp only [okO] at hk
    obtain ⟨q1, _, q2, q3⟩ := hk
    obtain ⟨q4, _, q5, _⟩ := q3 I rfl
    obtain ⟨ii, p1, p2⟩ := hT.out.2
    have hr := run_loadCells_list (P := P) w ⟨I.b, I.base + (i * I.sz + 0), none⟩ (enc (xs.getD i dd)) (fun j v hj => by
      rw [add_plain]
      have := q5.get q1 hi dd hj
      rw [← q4] at this
      rw [← this]; congr 2; omega)
    rw [q1, ← hn] at hr
    refine ⟨.agg (enc (xs.getD i dd)).toArray, ?_, ?_⟩
    · simp only [execOp, Instr.loadAt, h2, Instr.sureAddr, loadVar, Sem.run_bind, Sem.run_pure, Result.andThen_ok, run_isAgg_agg hT.out.1, if_true, run_size p1, p2, hr]
    · simp only [Rep]; exact ⟨_, rfl, reps_vals _⟩) k

/-- A store of one cell into an element of a row of our own. -/
theorem do_store_arr {T : TypeId} {x y : Operand} {o i f : Nat} {α : Type} {sz : Nat} {enc : α → List Value} {dd : α} {xs : List α} {v : Value} {z : α} [hT : TyOne P T] (hx : ev e x = some (.ptr o i f)) (hy : ev e y = some (.val v)) (ho : H[o]? = some (.arr α true sz enc dd xs))
    (hi : i < xs.length) (hz : (enc (xs.getD i dd)).set f v = enc z) (hf : f < sz) (hp : v.oneCell' = true)
    (k : K (.val undef) (H.set o (.arr α true sz enc dd (xs.set i z)))) : OpDo P r ⟨d, .store T x y, t, ps, af, g⟩ e H K := by
  refine ⟨by simp, fun ρ a w he hs => ?_⟩
  have hv := he.ev hx
  have hy' := he.ev hy
  simp only [Rep] at hv hy'
  obtain ⟨I, h1, h2⟩ := hv
  have hk := hs.ok o _ _ ho h1
  simp only [okO] at hk
  obtain ⟨q1, q1', q2, q3⟩ := hk
  obtain ⟨q4, q4', q5, q6⟩ := q3 I rfl
  obtain ⟨vs, tt, q8, q9⟩ := q6 trivial
  obtain ⟨ii, p1, p2⟩ := hT.out.2
  have hcell : ∃ u, w.cell? ⟨I.b, I.base + (i * I.sz + f), none⟩ = some u := by
    have := q5 i f hi hf
    rw [q4, this]
    exact ⟨_, List.getElem?_eq_getElem (by rw [q1]; exact hf)⟩
  obtain ⟨u, hu⟩ := hcell
  have hput := setCell_at (o := I.base + (i * I.sz + f)) (v := v) q8
  have e1 : xs.getD i dd = xs[i] := by simp [List.getD, hi]
  refine ⟨.skip, w.setCell ⟨I.b, I.base + (i * I.sz + f), none⟩ v, ?_, ρ, _, _, ?_, hs.put h1 ho rfl (.inl rfl) (fun b hb => setCell_other hb) (by simp) ?_, Ev.put h1 ho rfl (fun b hb => setCell_other hb) (by simp) rfl rfl rfl, k⟩
  · simp [execOp, Instr.storeAt, h2, Instr.sureAddr, storeVar, run_size p1, p2, hy', cells_one hp, storeCells, run_store, hp, hu, frozen_at q8, add_plain]
  · simp only [Rep]
  · simp only [okO]
    refine ⟨q1, q1', .inr ⟨I, rfl⟩, fun I' hI' => ?_⟩
    simp only [Option.some.injEq] at hI'
    subst hI'
    refine ⟨q4, by simpa using q4', ?_, fun _ => ⟨_, tt, hput, by simpa using q9⟩⟩
    intro k' f' hk' hf'
    simp only [List.length_set] at hk'
    have hold := q5 k' f' hk' hf'
    rw [cell_at hput, Array.getElem?_setIfInBounds]
    rw [cell_at q8] at hold hu
    rw [q4] at hu ⊢
    by_cases hkk : k' = i
    · subst hkk
      simp only [List.getElem_set_self]
      rw [← hz, List.getElem?_set, e1]
      by_cases hff : f' = f
      · subst hff
        have hlt : I.base + (k' * sz + f') < vs.size := (Array.getElem?_eq_some_iff.1 hu).1
        simp [hlt, q1, hf]
      · rw [if_neg (by omega), if_neg (fun e => hff e.symm), hold]
    · have hne : I.base + (i * sz + f) ≠ I.base + (k' * sz + f') := by
        intro heq
        have h3 : i * sz + f = k' * sz + f' := by omega
        have h4 : (i * sz + f) / sz = i := by rw [Nat.mul_comm, Nat.mul_add_div (by omega), Nat.div_eq_of_lt hf]; omega
        have h5 : (k' * sz + f') / sz = k' := by rw [Nat.mul_comm, Nat.mul_add_div (by omega), Nat.div_eq_of_lt hf']; omega
        rw [h3, h5] at h4
        exact hkk h4
      rw [if_neg hne, hold]
      rw [List.getElem_set_ne (fun e => hkk e.symm)]
end mem
end Go.Sx

set_option linter.unusedVariables false
set_option linter.unusedSimpArgs false
namespace Go.Sx
open Go Go.RowKit

/-- The symbolic value's cells. -/
def SV.cells : SV → List SV
  | .agg l => l
  | .val (.agg a) => a.toList.map .val
  | s => [s]
theorem Rep.cells {ρ : Rho} {s : SV} {v : Value} (h : Rep ρ s v) : Reps ρ s.cells v.cells.toList := by
  cases s with
  | val x =>
    simp only [Rep] at h
    subst h
    cases v <;> simp only [SV.cells, Value.cells, Reps, Rep, and_self]
    exact reps_vals _
  | agg l =>
    simp only [Rep] at h
    obtain ⟨a, rfl, h2⟩ := h
    simpa [SV.cells, Value.cells] using h2
  | ptr o i f => have h0 := h; simp only [Rep] at h; obtain ⟨I, _, rfl⟩ := h; simp only [SV.cells, Value.cells, Reps, and_true]; exact h0
  | slc o off len cap => have h0 := h; simp only [Rep] at h; rcases h with ⟨I, c, _, rfl, _⟩ | ⟨_, ⟨a, rfl⟩, _⟩ <;> (simp only [SV.cells, Value.cells, Reps, and_true]; exact h0)
  | func f a b => have h0 := h; simp only [Rep] at h; obtain ⟨a', b', rfl, _⟩ := h; simp only [SV.cells, Value.cells, Reps, and_true]; exact h0
  | tup l => have h0 := h; simp only [Rep] at h; obtain ⟨a, rfl, _⟩ := h; simp only [SV.cells, Value.cells, Reps, and_true]; exact h0
  | map o => have h0 := h; simp only [Rep] at h; obtain ⟨I, _, rfl⟩ := h; simp only [SV.cells, Value.cells, Reps, and_true]; exact h0
  | chan o => have h0 := h; simp only [Rep] at h; obtain ⟨I, _, rfl⟩ := h; simp only [SV.cells, Value.cells, Reps, and_true]; exact h0
  | yield o => have h0 := h; simp only [Rep] at h; obtain ⟨I, _, rfl⟩ := h; simp only [SV.cells, Value.cells, Reps, and_true]; exact h0

theorem getElem_snoc_len {α : Type _} (l : List α) (x : α) : (l ++ [x])[l.length]? = some x := by simp

section new
variable {P : Program} {r : Option Nat} {d : Option Tmp} {t : TypeId} {ps : String} {af : Array Edge} {g : Option (Nat × Bool)} {e : Env} {H : List SO} {K : SV → List SO → Prop}

theorem new_box {ρ : Rho} {w : World} (hs : St ρ H w) {vs : Array Value} {t : TypeId} {cs : List SV} (h : Reps ρ cs vs.toList) :
    St (ρ ++ [some ⟨w.heap.size, 0, 1, vs.size⟩]) (H ++ [.box cs]) (w.alloc (.cells vs t)) ∧ Ev ρ H w (ρ ++ [some ⟨w.heap.size, 0, 1, vs.size⟩]) (H ++ [.box cs]) (w.alloc (.cells vs t)) :=
  hs.new rfl (by simp only [okO]; exact ⟨_, vs, t, rfl, rfl, heap_alloc_new w _, rfl, Reps.ext (Ext.append _ _) _ _ h⟩)

theorem do_box {T : TypeId} {x : Operand} {s : SV} (hx : ev e x = some s) (k : K (.ptr H.length 0 0) (H ++ [.box s.cells])) : OpDo P r ⟨d, .box T x, t, ps, af, g⟩ e H K := by
  refine ⟨by simp, fun ρ a w he hs => ?_⟩
  have hv := he.ev hx
  obtain ⟨h1, h2⟩ := new_box (t := T) hs hv.cells
  refine ⟨.value (.pointer (some ⟨w.heap.size, 0, none⟩)), w.alloc (.cells (a.eval x).cells T), by simp [execOp, Instr.box, newVar, newRow], _, _, _, ?_, h1, h2, k⟩
  simp only [Rep]
  exact ⟨_, by rw [← hs.len]; exact getElem_snoc_len _ _, by simp⟩
theorem do_alloc {T : TypeId} {z : Value} [hT : TyZero P T z] (k : K (.ptr H.length 0 0) (H ++ [.box (SV.val z).cells])) : OpDo P r ⟨d, .alloc T, t, ps, af, g⟩ e H K := by
  refine ⟨by simp, fun ρ a w he hs => ?_⟩
  obtain ⟨i, q1, q2⟩ := hT.out
  have hv : Rep ρ (.val z) z := by simp only [Rep]
  obtain ⟨h1, h2⟩ := new_box (t := T) hs hv.cells
  refine ⟨.value (.pointer (some ⟨w.heap.size, 0, none⟩)), w.alloc (.cells z.cells T), by simp [execOp, Instr.alloc, newVar, newRow, run_zero q1 q2], _, _, _, ?_, h1, h2, k⟩
  simp only [Rep]
  exact ⟨_, by rw [← hs.len]; exact getElem_snoc_len _ _, by simp⟩

/-- A struct put together. -/
def fillSV (places : List (Nat × Nat)) : List SV → List (Nat × SV) → Option (List SV)
  | cs, [] => some cs
  | cs, (i, s) :: rest => match places[i]? with
    | some (off, size) => if s.cells.length = size ∧ off + size ≤ cs.length then fillSV places (cs.take off ++ s.cells ++ cs.drop (off + size)) rest else none
    | none => none
def evsI (e : Env) : List (Nat × Operand) → Option (List (Nat × SV))
  | [] => some []
  | (i, x) :: l => match ev e x, evsI e l with
    | some v, some vs => some ((i, v) :: vs)
    | _, _ => none
class TyBuild (P : Program) (t : TypeId) (places : outParam (List (Nat × Nat))) (z : outParam (List Value)) : Prop where
  out : ∀ w : World, ∃ fs, P.underlying t = some (.struct fs) ∧ (zeroValue t).run P w = .ok (.agg z.toArray) w ∧
    (fs.mapM (fun f => do return (f.offset, ← sizeOf f.type)) : Sem (Array (Nat × Nat))).run P w = .ok places.toArray w

theorem foldl_set (l : List Value) : ∀ (cs : Array Value) (off j0 : Nat), off + j0 + l.length ≤ cs.size →
    ((l.zipIdx j0).foldl (fun cs (c, j) => cs.setIfInBounds (off + j) c) cs).toList = cs.toList.take (off + j0) ++ l ++ cs.toList.drop (off + j0 + l.length) := by
  induction l with
  | nil => intro cs off j0 h; simp
  | cons x l ih =>
    intro cs off j0 h
    simp only [List.length_cons] at h
    simp only [List.zipIdx_cons, List.foldl_cons]
    rw [ih (cs.setIfInBounds (off + j0) x) off (j0 + 1) (by simp; omega)]
    rw [Array.toList_setIfInBounds]
    have e0 : cs.toList.length = cs.size := Array.length_toList
    have hlt : off + j0 < cs.toList.length := by omega
    have e1 : (cs.toList.set (off + j0) x).take (off + (j0 + 1)) = cs.toList.take (off + j0) ++ [x] := by
      rw [show off + (j0 + 1) = off + j0 + 1 from by omega, List.take_succ_eq_append_getElem (by simpa using hlt), List.getElem_set_self, List.take_set_of_le (Nat.le_refl _)]
    have e2 : (cs.toList.set (off + j0) x).drop (off + (j0 + 1) + l.length) = cs.toList.drop (off + j0 + (l.length + 1)) := by
      rw [List.drop_set_of_lt (by omega)]; congr 1; omega
    rw [e1, e2]
    simp

theorem run_fill {ρ : Rho} {places : List (Nat × Nat)} : ∀ (parts : List (Nat × SV)) (pv : List (Nat × Value)) (cs : List SV) (cv : Array Value) (out : List SV),
    parts.map (·.1) = pv.map (·.1) → Reps ρ (parts.map (·.2)) (pv.map (·.2)) → Reps ρ cs cv.toList → fillSV places cs parts = some out →
    ∃ ov, Instr.fill (places.toArray[·]?) cv pv = some ov ∧ Reps ρ out ov.toList
  | [], [], cs, cv, out, _, _, hc, hf => by
    simp only [fillSV, Option.some.injEq] at hf
    subst hf
    exact ⟨cv, rfl, hc⟩
  | (i, s) :: parts, (j, v) :: pv, cs, cv, out, hi, hr, hc, hf => by
    simp only [List.map_cons, List.cons.injEq] at hi
    obtain ⟨rfl, hi⟩ := hi
    simp only [List.map_cons, Reps] at hr
    simp only [fillSV] at hf
    split at hf
    · rename_i off size hp
      split at hf
      · rename_i hsz
        have hcells := hr.1.cells
        have hl1 := hcells.length
        have hl2 := hc.length
        have hfs := foldl_set v.cells.toList cv off 0 (by rw [← Array.length_toList (xs := cv)]; omega)
        have hrep : Reps ρ (cs.take off ++ s.cells ++ cs.drop (off + size)) (v.cells.toList.zipIdx.foldl (fun cs (c, j) => cs.setIfInBounds (off + j) c) cv).toList := by
          rw [hfs]
          simp only [Nat.add_zero]
          exact ((hc.take off).append hcells).append (by rw [← hl1, hsz.1]; exact hc.drop _)
        obtain ⟨ov, h1, h2⟩ := run_fill parts pv _ _ out hi hr.2 hrep hf
        refine ⟨ov, ?_, h2⟩
        have hp' : (places.toArray[i]? : Option (Nat × Nat)) = some (off, size) := by simpa using hp
        have e0 : v.cells.toList.length = v.cells.size := Array.length_toList
        have e1 : cv.toList.length = cv.size := Array.length_toList
        have e3 : v.cells.zipIdx.foldl (fun cs (c, j) => cs.setIfInBounds (off + j) c) cv = v.cells.toList.zipIdx.foldl (fun cs (c, j) => cs.setIfInBounds (off + j) c) cv := by
          rw [← Array.foldl_toList]; simp
        simp only [Instr.fill, hp']
        have hsz1 := hsz.1
        have hsz2 := hsz.2
        rw [if_neg (by simp only [Bool.or_eq_true, decide_eq_true_eq]; rintro (h | h) <;> omega), e3]
        exact h1
      · cases hf
    · cases hf
  | [], _ :: _, _, _, _, hi, _, _, _ => by simp at hi
  | _ :: _, [], _, _, _, hi, _, _, _ => by simp at hi

theorem EnvOK.evsI {ρ : Rho} {e : Env} {a : Act} (h : EnvOK ρ e a) : ∀ {l : List (Nat × Operand)} {vs : List (Nat × SV)}, evsI e l = some vs →
    vs.map (·.1) = (l.map fun (i, x) => (i, a.eval x)).map (·.1) ∧ Reps ρ (vs.map (·.2)) ((l.map fun (i, x) => (i, a.eval x)).map (·.2))
  | [], vs, hx => by simp only [Sx.evsI, Option.some.injEq] at hx; subst hx; simp [Reps]
  | (i, x) :: l, vs, hx => by
    simp only [Sx.evsI] at hx
    split at hx
    · rename_i v vs' h1 h2
      simp only [Option.some.injEq] at hx
      subst hx
      obtain ⟨q1, q2⟩ := h.evsI h2
      simp only [List.map_cons, Reps, List.cons.injEq, true_and]
      exact ⟨q1, h.ev h1, q2⟩
    · cases hx

theorem do_build {T : TypeId} {parts : Array (Nat × Operand)} {places : List (Nat × Nat)} {z : List Value} {pv : List (Nat × SV)} {out : List SV} [hT : TyBuild P T places z] (hp : evsI e parts.toList = some pv)
    (ho : fillSV places (z.map .val) pv = some out) (k : K (.agg out) H) : OpDo P r ⟨d, .build T parts, t, ps, af, g⟩ e H K :=
  .pure (by simp) (fun ρ a w he hs => by
    obtain ⟨fs, q1, q2, q3⟩ := hT.out w
    obtain ⟨h1, h2⟩ := he.evsI hp
    obtain ⟨ov, h3, h4⟩ := run_fill pv _ (z.map .val) z.toArray out h1 h2 (by simpa using reps_vals z) ho
    refine ⟨.agg ov, ?_, by simp only [Rep]; exact ⟨_, rfl, h4⟩⟩
    have h3' : Instr.fill (fun x => places.toArray[x]?) z.toArray (parts.map fun (i, x) => (i, a.eval x)).toList = some ov := by simpa using h3
    simp only [execOp, Instr.build, Sem.run_bind, q2, Result.andThen_ok, run_under q1, Value.cells, q3, h3', Sem.run_pure]) k
end new
end Go.Sx

set_option linter.unusedVariables false
set_option linter.unusedSimpArgs false
namespace Go.Sx
open Go Go.RowKit

/-- An object added whose block nobody else of the walk has. -/
theorem St.snoc {ρ : Rho} {H : List SO} {w : World} (h : St ρ H w) {io : Option Info} {obj : SO} (hown : obj.own = true) (hok : okO (ρ ++ [io]) w io obj)
    (hfree : ∀ I, io = some I → ∀ (o : Nat) (I2 : Info) (x : SO), ρ[o]? = some (some I2) → H[o]? = some x → x ≠ .dead → I2.b ≠ I.b) : St (ρ ++ [io]) (H ++ [obj]) w := by
  have hlen := h.len
  have nd : ∀ x : SO, x.own = true → x ≠ .dead := fun x hx e => by subst e; cases hx
  refine ⟨by simp [hlen], fun o x io' hx hio => ?_, fun o o' I I' x x' q1 q2 q3 q4 q5 q6 q7 => ?_, fun o o' I I' x x' q1 q2 q3 q4 q5 q6 q7 q8 => ?_⟩
  · rcases get_snoc hx with ⟨h1, h2⟩ | ⟨h1, h2⟩ <;> rcases get_snoc hio with ⟨h3, h4⟩ | ⟨h3, h4⟩
    · exact (h.ok o x io' h2 h4).keep (Ext.append _ _) (Nat.le_refl _) (fun I _ _ hb => rfl)
    · omega
    · omega
    · subst h2; rw [← h4]; exact hok
  · rcases get_snoc q1 with ⟨a1, a2⟩ | ⟨a1, a2⟩ <;> rcases get_snoc q2 with ⟨b1, b2⟩ | ⟨b1, b2⟩ <;> rcases get_snoc q3 with ⟨c1, c2⟩ | ⟨c1, c2⟩ <;> rcases get_snoc q4 with ⟨d1, d2⟩ | ⟨d1, d2⟩
    all_goals try omega
    · exact h.inj o o' I I' x x' a2 b2 c2 d2 q5 q6 q7
    · exact absurd q7 (hfree I' b2 o I x a2 c2 (nd x q5))
    · exact absurd q7.symm (hfree I a2 o' I' x' b2 d2 (nd x' q6))
  · rcases get_snoc q1 with ⟨a1, a2⟩ | ⟨a1, a2⟩ <;> rcases get_snoc q2 with ⟨b1, b2⟩ | ⟨b1, b2⟩ <;> rcases get_snoc q3 with ⟨c1, c2⟩ | ⟨c1, c2⟩ <;> rcases get_snoc q4 with ⟨d1, d2⟩ | ⟨d1, d2⟩
    all_goals try omega
    · exact h.ro o o' I I' x x' a2 b2 c2 d2 q5 q6 q7 q8
    · subst d2; rw [hown] at q6; cases q6
    · exact (hfree I a2 o' I' x' b2 d2 (fun e => q7 e)) q8.symm
    · subst d2; rw [hown] at q6; cases q6

/-- Is b the block of nobody? -/
theorem St.fresh_free {ρ : Rho} {H : List SO} {w : World} (h : St ρ H w) {o : Nat} {I2 : Info} {x : SO} (h1 : ρ[o]? = some (some I2)) (h2 : H[o]? = some x) (h3 : x ≠ .dead) : I2.b < w.heap.size := by
  have hk := h.ok o x _ h2 h1
  cases x with
  | dead => exact (h3 rfl).elim
  | box cs => exact hk.lt rfl
  | gen cs q => exact hk.lt rfl
  | arr α own sz enc d xs => simp only [okO] at hk; exact (hk.2.2.2 I2 rfl).2.1

section sl
variable {P : Program} {r : Option Nat} {d : Option Tmp} {t : TypeId} {ps : String} {af : Array Edge} {g : Option (Nat × Bool)} {e : Env} {H : List SO} {K : SV → List SO → Prop}

theorem do_len {T rt : TypeId} {x : Operand} {el : TypeId} {n by_ o off len : Nat} {z : List Value} {cap : Option Nat} [hT : TySl P T el n by_ z] (hx : ev e x = some (.slc o off len cap)) (k : K (.val (.int .i64 len)) H) :
    OpDo P r ⟨d, .call ⟨.builtin .len, #[x], #[T]⟩, rt, ps, af, g⟩ e H K :=
  .pure (by simp) (fun ρ a w he hs => by
    have hv := he.ev hx
    simp only [Rep] at hv
    refine ⟨.int .i64 len, ?_, by simp only [Rep]⟩
    rcases hv with ⟨I, c, _, h2, _⟩ | ⟨h1, ⟨ad, h2⟩, _⟩
    · simp [execOp, resolve, invoke, builtin, Builtin.len_, run_under hT.out.1, h2, goInt]
    · simp [execOp, resolve, invoke, builtin, Builtin.len_, run_under hT.out.1, h2, goInt, h1]) k
theorem do_min {T T' rt : TypeId} {x y : Operand} {k0 : IntKind} {a0 b0 : Int} (hx : ev e x = some (.val (.int k0 a0))) (hy : ev e y = some (.val (.int k0 b0))) (k : K (.val (.int k0 (if b0 < a0 then b0 else a0))) H) :
    OpDo P r ⟨d, .call ⟨.builtin .min, #[x, y], #[T, T']⟩, rt, ps, af, g⟩ e H K :=
  .pure (by simp) (fun ρ a w he hs => by
    have h1 := he.ev hx; have h2 := he.ev hy; simp only [Rep] at h1 h2
    exact ⟨.int k0 (if b0 < a0 then b0 else a0), by simp [execOp, resolve, invoke, builtin, Builtin.min_, Builtin.min2, h1, h2], by simp only [Rep]⟩) k
theorem do_max {T T' rt : TypeId} {x y : Operand} {k0 : IntKind} {a0 b0 : Int} (hx : ev e x = some (.val (.int k0 a0))) (hy : ev e y = some (.val (.int k0 b0))) (k : K (.val (.int k0 (if b0 > a0 then b0 else a0))) H) :
    OpDo P r ⟨d, .call ⟨.builtin .max, #[x, y], #[T, T']⟩, rt, ps, af, g⟩ e H K :=
  .pure (by simp) (fun ρ a w he hs => by
    have h1 := he.ev hx; have h2 := he.ev hy; simp only [Rep] at h1 h2
    exact ⟨.int k0 (if b0 > a0 then b0 else a0), by simp [execOp, resolve, invoke, builtin, Builtin.max_, Builtin.max2, h1, h2], by simp only [Rep]⟩) k
theorem do_conv {S D : TypeId} {x : Operand} {k0 k1 : IntKind} {n : Int} [hT : TyInt P D k1] [hS : TyInt P S k0] (hx : ev e x = some (.val (.int k0 n))) (k : K (.val (.int k1 (k1.wrap n))) H) :
    OpDo P r ⟨d, .convert S D x, t, ps, af, g⟩ e H K :=
  .pure (by simp) (fun ρ a w he hs => by
    have h1 := he.ev hx; simp only [Rep] at h1
    exact ⟨.int k1 (k1.wrap n), by simp [execOp, convert, run_under hT.out, run_under hS.out, h1, Conv.intToInt], by simp only [Rep]⟩) k

theorem madeCells_get (z : Array Value) (n k f : Nat) (hk : k < n) (hf : f < z.size) : (madeCells z (n * z.size))[k * z.size + f]? = z[f]? := by
  have hlt : k * z.size + f < n * z.size := by
    calc k * z.size + f < k * z.size + z.size := by omega
      _ = (k + 1) * z.size := by rw [Nat.add_mul]; omega
      _ ≤ n * z.size := Nat.mul_le_mul_right _ hk
  have hm : (k * z.size + f) % z.size = f := by rw [Nat.mul_comm, Nat.mul_add_mod]; exact Nat.mod_eq_of_lt hf
  unfold madeCells
  rw [Array.getElem?_map, Array.getElem?_range, if_pos hlt]
  simp only [Option.map_some, hm]
  rw [Array.getElem!_eq_getD, Array.getD_eq_getD_getElem?, Array.getElem?_eq_getElem hf]
  rfl

/-- 'make([]T, n)'. -/
theorem do_make {T : TypeId} {x y : Operand} {el : TypeId} {n by_ : Nat} {z : List Value} {k0 k1 : IntKind} {c : Int} (α : Type) (enc : α → List Value) (dd : α) [hT : TySl P T el n by_ z] (hx : ev e x = some (.val (.int k0 c))) (hy : ev e y = some (.val (.int k1 c)))
    (hz : enc dd = z) (hsz : ∀ q, (enc q).length = n) (hone : ∀ q, ∀ v ∈ enc q, v.oneCell' = true) (h0 : 0 ≤ c) (hb : (by_ : Int) * c ≤ 281474976710656) (hc : c ≤ 9223372036854775807)
    (k : K (.slc H.length 0 c.toNat (some c.toNat)) (H ++ [.arr α true n enc dd (List.replicate c.toNat dd)])) : OpDo P r ⟨d, .makeSlice T x y, t, ps, af, g⟩ e H K := by
  refine ⟨by simp, fun ρ a w he hs => ?_⟩
  have h1 := he.ev hx; have h2 := he.ev hy; simp only [Rep] at h1 h2
  obtain ⟨t1, i, zv, t2, t3, t4, t5, t6, t7, t8⟩ := hT.out
  have hrun := run_make (P := P) w T el i zv t1 t2 t6 k0 k1 c c h0 (Int.le_refl _) (by rw [t4]; exact hb) hc
  have hzs : zv.cells.size = n := by rw [t7, ← hz]; simp [hsz]
  have hsize : (madeCells zv.cells (c.toNat * i.size)).size = c.toNat * n := by rw [size_madeCells, t3]
  have hnew := hs.new (vs := madeCells zv.cells (c.toNat * i.size)) (t := el) (obj := .arr α true n enc dd (List.replicate c.toNat dd)) (sz := n) rfl (by
    simp only [okO]
    refine ⟨hsz, hone, .inr ⟨_, rfl⟩, fun I hI => ?_⟩
    simp only [Option.some.injEq] at hI
    subst hI
    refine ⟨rfl, by simp, ?_, fun _ => ⟨_, el, heap_alloc_new w _, rfl⟩⟩
    intro k' f hk' hf
    simp only [List.length_replicate] at hk'
    rw [cell_at (heap_alloc_new w _)]
    simp only [Nat.zero_add, List.getElem_replicate]
    rw [t3, ← hzs, madeCells_get _ _ _ _ hk' (by omega), t7, hz]
    simp)
  refine ⟨.value (.slice (some ⟨w.heap.size, 0, none⟩) c.toNat c.toNat), w.alloc (.cells (madeCells zv.cells (c.toNat * i.size)) el), by simp only [execOp, h1, h2, Sem.run_bind, hrun, Result.andThen_ok, Sem.run_pure], _, _, _, ?_, hnew.1, hnew.2, k⟩
  simp only [Rep]
  refine .inl ⟨_, c.toNat, by rw [← hs.len]; exact getElem_snoc_len _ _, by simp, Nat.le_refl _, by simp [hsize], fun q hq => by simpa using hq⟩

/-! ### Cuts -/
def evLo (e : Env) : Option Operand → Option Int
  | none => some 0
  | some x => match ev e x with | some (.val (.int _ n)) => some n | _ => none
def evHi (e : Env) (len : Nat) : Option Operand → Option Int
  | none => some len
  | some x => match ev e x with | some (.val (.int _ n)) => some n | _ => none
theorem evLo_some {e : Env} {ρ : Rho} {a : Act} (he : EnvOK ρ e a) {x : Operand} {l : Int} (h : evLo e (some x) = some l) : ∃ k, a.eval x = .int k l := by
  simp only [evLo] at h
  split at h
  · rename_i k n hx
    simp only [Option.some.injEq] at h
    subst h
    have := he.ev hx
    simp only [Rep] at this
    exact ⟨k, this⟩
  · cases h
theorem do_slice {T : TypeId} {x : Operand} {lo hi : Option Operand} {el : TypeId} {n by_ o off len : Nat} {z : List Value} {cap : Option Nat} {l h : Int} [hT : TySl P T el n by_ z] (hx : ev e x = some (.slc o off len cap)) (hlo : evLo e lo = some l) (hhi : evHi e len hi = some h)
    {α : Type} {own : Bool} {sz : Nat} {enc : α → List Value} {dd : α} {xs : List α} (ho : H[o]? = some (.arr α own sz enc dd xs)) (hn : sz = n)
    (h0 : 0 ≤ l) (h1 : l ≤ h) (h2 : h ≤ len) (k : K (.slc o (off + l.toNat) (h - l).toNat (cap.map (· - l.toNat))) H) : OpDo P r ⟨d, .slice T x lo hi none, t, ps, af, g⟩ e H K :=
  .pure (by simp) (fun ρ a w he hs => by
    have hv := he.ev hx
    simp only [Rep] at hv
    obtain ⟨t1, i, zv, t2, t3, t4, t5, t6, t7, t8⟩ := hT.out
    have key : ∀ (ad : Option Addr) (c : Nat), a.eval x = .slice ad len c → len ≤ c → (execOp a.eval ⟨d, .slice T x lo hi none, t, ps, af, g⟩).run P w =
        .ok (.value (.slice (if c = l.toNat then ad else ad.map (·.add (l.toNat * n))) (h.toNat - l.toNat) (c - l.toNat))) w := by
      intro ad c hq hc
      have a1 : 0 ≤ h := by omega
      have a2 : h ≤ (c : Int) := by omega
      have a3 : max h 0 = h := by omega
      have a4 : ((h.toNat : Nat) : Int) = h := by omega
      cases lo with
      | none =>
        simp only [evLo, Option.some.injEq] at hlo
        subst hlo
        cases hi with
        | none =>
          simp only [evHi, Option.some.injEq] at hhi
          subst hhi
          simp [execOp, Instr.sliceAt, Instr.slice, Instr.sliceBounds, hq, run_under t1, run_size t2, t3]
        | some q =>
          obtain ⟨kk, hq2⟩ := evLo_some he (show evLo e (some q) = some h from hhi)
          simp [execOp, Instr.sliceAt, Instr.slice, Instr.sliceBounds, hq, hq2, run_under t1, run_size t2, t3, Instr.sliceBound, asIntOf, a1, a2]
      | some q0 =>
        obtain ⟨k2, hq3⟩ := evLo_some he hlo
        cases hi with
        | none =>
          simp only [evHi, Option.some.injEq] at hhi
          subst hhi
          simp [execOp, Instr.sliceAt, Instr.slice, Instr.sliceBounds, hq, hq3, run_under t1, run_size t2, t3, Instr.sliceBound, asIntOf, h0, h1]
        | some q =>
          obtain ⟨kk, hq2⟩ := evLo_some he (show evLo e (some q) = some h from hhi)
          simp [execOp, Instr.sliceAt, Instr.slice, Instr.sliceBounds, hq, hq2, hq3, run_under t1, run_size t2, t3, Instr.sliceBound, asIntOf, a1, a2, h0, h1, a3, a4]
    have e3 : (h - l).toNat = h.toNat - l.toNat := by omega
    rcases hv with ⟨I, c, q1, q2, q3, q4, q5⟩ | ⟨q1, ⟨ad, q2⟩, q3⟩
    · refine ⟨_, key _ c q2 q3, ?_⟩
      have hk := hs.ok o _ _ ho q1
      simp only [okO] at hk
      have hI := (hk.2.2.2 I rfl).1
      simp only [Rep]
      by_cases hcl : c = l.toNat
      · right
        refine ⟨by omega, ⟨_, by rw [show h.toNat - l.toNat = 0 from by omega, show c - l.toNat = 0 from by omega]⟩, fun k' hk' => ?_⟩
        cases cap with
        | none => simp at hk'
        | some c' => simp at hk'; have := q5 c' rfl; omega
      · left
        refine ⟨I, c - l.toNat, q1, ?_, by omega, ?_, fun k' hk' => ?_⟩
        · rw [if_neg hcl, e3]
          simp only [Option.map_some, add_plain]
          rw [hI, hn, Nat.add_mul]; congr 3; omega
        · rw [show off + l.toNat + (c - l.toNat) = off + c from by omega]; exact q4
        · cases cap with
          | none => simp at hk'
          | some c' => simp at hk'; have := q5 c' rfl; omega
    · subst q1
      refine ⟨_, key ad 0 q2 (Nat.le_refl _), ?_⟩
      simp only [Rep]
      right
      refine ⟨by omega, ⟨_, by rw [show h.toNat - l.toNat = 0 from by omega, Nat.zero_sub]⟩, fun k' hk' => ?_⟩
      cases cap with
      | none => simp at hk'
      | some c' => simp at hk'; have := q3 c' rfl; omega) k
end sl
end Go.Sx

set_option linter.unusedVariables false
set_option linter.unusedSimpArgs false
namespace Go.Sx
open Go Go.RowKit

theorem flatMap_get {α : Type} {enc : α → List Value} {sz : Nat} (hl : ∀ x, (enc x).length = sz) (hs : 0 < sz) : ∀ (l : List α) (j : Nat), (l.flatMap enc)[j]? = (l[j / sz]?).bind fun x => (enc x)[j % sz]?
  | [], j => by simp
  | x :: l, j => by
    rw [List.flatMap_cons]
    rcases Nat.lt_or_ge j sz with h | h
    · rw [List.getElem?_append_left (by rw [hl]; exact h), Nat.div_eq_of_lt h, Nat.mod_eq_of_lt h]
      simp
    · rw [List.getElem?_append_right (by rw [hl]; exact h), hl, flatMap_get hl hs l (j - sz)]
      have e1 : j / sz = (j - sz) / sz + 1 := by rw [← Nat.add_div_right _ hs, Nat.sub_add_cancel h]
      have e2 : j % sz = (j - sz) % sz := by rw [Nat.mod_eq_sub_mod h]
      rw [e1, e2]
      simp
theorem flatMap_len {α : Type} {enc : α → List Value} {sz : Nat} (hl : ∀ x, (enc x).length = sz) : ∀ (l : List α), (l.flatMap enc).length = l.length * sz
  | [] => by simp
  | x :: l => by rw [List.flatMap_cons, List.length_append, hl, flatMap_len hl l, List.length_cons, Nat.add_mul]; omega

/-- A row's cells from an element on. -/
theorem Cells.flat {w : World} {I : Info} {α : Type} {sz : Nat} {enc : α → List Value} {xs : List α} (h : Cells w I sz enc xs) (hl : ∀ x, (enc x).length = sz) (hs : 0 < sz) (off len : Nat) (j : Nat) (v : Value)
    (hj : (((xs.drop off).take len).flatMap enc)[j]? = some v) : w.cell? ⟨I.b, I.base + off * sz + j, none⟩ = some v := by
  rw [flatMap_get hl hs, Option.bind_eq_some_iff] at hj
  obtain ⟨x, h1, h2⟩ := hj
  rw [List.getElem?_take] at h1
  split at h1
  · rw [List.getElem?_drop] at h1
    obtain ⟨hlt, h3⟩ := List.getElem?_eq_some_iff.1 h1
    have := h (off + j / sz) (j % sz) hlt (Nat.mod_lt _ hs)
    rw [h3, h2] at this
    rw [← this]
    congr 2
    rw [Nat.add_mul]
    have := Nat.div_add_mod j sz
    rw [Nat.mul_comm] at this
    omega
  · cases h1
/-- And back: cells out of a flat row. -/
theorem Cells.of_flat {w : World} {I : Info} {α : Type} {sz : Nat} {enc : α → List Value} {xs : List α} (hl : ∀ x, (enc x).length = sz) (hs : 0 < sz)
    (h : ∀ j v, (xs.flatMap enc)[j]? = some v → w.cell? ⟨I.b, I.base + j, none⟩ = some v) : Cells w I sz enc xs := by
  intro k f hk hf
  have hlt : f < (enc xs[k]).length := by rw [hl]; exact hf
  rw [List.getElem?_eq_getElem hlt]
  refine h (k * sz + f) _ ?_
  rw [flatMap_get hl hs]
  have e1 : (k * sz + f) / sz = k := by rw [Nat.mul_comm, Nat.mul_add_div hs, Nat.div_eq_of_lt hf]; omega
  have e2 : (k * sz + f) % sz = f := by rw [Nat.mul_comm, Nat.mul_add_mod]; exact Nat.mod_eq_of_lt hf
  rw [e1, e2, List.getElem?_eq_getElem hk]
  simp [List.getElem?_eq_getElem hlt]

theorem run_first_none {P : Program} {w : World} (size : Nat) (ad : Option Addr) (c : Nat) : (Builtin.firstCells size 0 (.slice ad 0 c)).run P w = .ok #[] w := by
  cases ad with
  | none => simp [Builtin.firstCells]
  | some a => simp [Builtin.firstCells, loadCells, loadCellsFrom]

/-- append that takes a new row. -/
theorem run_append_new {P : Program} {w : World} (t ty e : TypeId) (i : TypeInfo) (z : Value) (ht : P.underlying t = some (.slice e)) (hi : P.info? e = some i) (hz : i.zero = some z)
    (ad ad2 : Option Addr) (len c len2 c2 : Nat) (olds news : List Value)
    (ho : ∀ w', w'.heap = w.heap → (Builtin.firstCells i.size len (.slice ad len c)).run P w' = .ok olds.toArray w')
    (hn : ∀ w', w'.heap = w.heap → (Builtin.firstCells i.size len2 (.slice ad2 len2 c2)).run P w' = .ok news.toArray w')
    (hg : c < len + len2) (h63 : ((len + len2 : Nat) : Int) ≤ 9223372036854775807) (hb : (len + len2) * i.bytes ≤ 140737488355328) :
    (Builtin.append_ #[t, t] ty #[.slice ad len c, .slice ad2 len2 c2]).run P w =
      .ok (.slice (some ⟨w.heap.size, 0, none⟩) (len + len2) (grownCap w (len + len2) c e))
        (w.drew.alloc (.cells (olds.toArray ++ news.toArray ++ Builtin.zeroCells z.cells (grownCap w (len + len2) c e - (len + len2))) e)) := by
  have hfit := growslice_fits hg hb
  have hn' : ¬ (len + len2 ≤ c) := by omega
  have h63' : ¬ (9223372036854775807 < ((len : Int) + (len2 : Int))) := by omega
  have h48' : ¬ (281474976710656 < Builtin.nextslicecap (len + len2) c * i.bytes) := by omega
  have q1 := ho w.drew rfl
  have q2 := hn w.drew rfl
  simp [Builtin.append_, run_underlying ht, sizeOf, typeInfo, zeroValue, hi, hz, Builtin.lenOf, hn', h63', h48', Question.forced, q1, q2, newRow, grownCap]
  congr 2
  apply Array.ext'
  simp [List.append_assoc]

/-- append in place. -/
theorem run_append_put {P : Program} {w : World} (t ty e : TypeId) (i : TypeInfo) (ht : P.underlying t = some (.slice e)) (hi : P.info? e = some i)
    (b o : Nat) (ad2 : Option Addr) (len c len2 c2 : Nat) (news : List Value) (cur : Array Value) (e' : TypeId) (hcur : w.heap[b]? = some (.cells cur e' (0, 0)))
    (hn : (Builtin.firstCells i.size len2 (.slice ad2 len2 c2)).run P w = .ok news.toArray w) (h1 : ∀ v ∈ news, v.oneCell' = true)
    (hg : len + len2 ≤ c) (hfit : o + len * i.size + news.length ≤ cur.size) :
    (Builtin.append_ #[t, t] ty #[.slice (some ⟨b, o, none⟩) len c, .slice ad2 len2 c2]).run P w =
      .ok (.slice (some ⟨b, o, none⟩) (len + len2) c) (w.setRow b (cur.toList.take (o + len * i.size) ++ news ++ cur.toList.drop (o + len * i.size + news.length)).toArray) := by
  have hst := run_storeCells_at P b (o + len * i.size) e' news 0 cur w hcur (by simpa using hfit) h1
  simp only [Nat.add_zero] at hst
  simp [Builtin.append_, run_underlying ht, sizeOf, typeInfo, hi, Builtin.lenOf, hg, hn, add_plain, hst]

theorem enc_mem {α : Type} {enc : α → List Value} (hone : ∀ x, ∀ v ∈ enc x, v.oneCell' = true) (l : List α) : ∀ v ∈ l.flatMap enc, v.oneCell' = true := by
  intro v hv
  rw [List.mem_flatMap] at hv
  obtain ⟨x, _, h⟩ := hv
  exact hone x v h

/-- What append's row holds. -/
abbrev cut {α : Type} (xs : List α) (off len : Nat) : List α := (xs.drop off).take len
theorem cut_len {α : Type} {xs : List α} {off len : Nat} (h : off + len ≤ xs.length) : (cut xs off len).length = len := by simp [cut]; omega

/-- The reading of a slice that is appended. -/
theorem first_slc {P : Program} {ρ : Rho} {H : List SO} {w : World} (hs : St ρ H w) {o off len : Nat} {cap : Option Nat} {v : Value} (hv : Rep ρ (.slc o off len cap) v) {α : Type} {own : Bool} {sz : Nat} {enc : α → List Value} {dd : α} {xs : List α}
    (ho : H[o]? = some (.arr α own sz enc dd xs)) (hsz : 0 < sz) (hl : off + len ≤ xs.length) :
    ∃ ad c, v = .slice ad len c ∧ ∀ w' : World, w'.heap = w.heap → (Builtin.firstCells sz len (.slice ad len c)).run P w' = .ok ((cut xs off len).flatMap enc).toArray w' := by
  simp only [Rep] at hv
  rcases hv with ⟨I, c, q1, q2, q3, q4, q5⟩ | ⟨q1, ⟨ad, q2⟩, q3⟩
  · have hk := hs.ok o _ _ ho q1
    simp only [okO] at hk
    obtain ⟨k1, k2, k3, k4⟩ := hk
    obtain ⟨k5, k6, k7, k8⟩ := k4 I rfl
    refine ⟨_, c, q2, fun w' hw => ?_⟩
    have hfl := flatMap_len k1 (cut xs off len)
    rw [cut_len hl] at hfl
    exact run_firstCells_some (P := P) w' sz len _ len c _ hfl (fun j u hj => by
      rw [add_plain]
      have := k7.flat k1 hsz off len j u hj
      rw [k5]
      have hc : w'.cell? ⟨I.b, I.base + off * sz + j, none⟩ = w.cell? ⟨I.b, I.base + off * sz + j, none⟩ := by simp only [World.cell?, hw]
      rw [hc]; exact this)
  · subst q1
    refine ⟨ad, 0, q2, fun w' hw => ?_⟩
    rw [run_first_none]
    simp [cut]

section app
variable {P : Program} {r : Option Nat} {d : Option Tmp} {t : TypeId} {ps : String} {af : Array Edge} {g : Option (Nat × Bool)} {e : Env} {H : List SO} {K : SV → List SO → Prop}

theorem size_zero (z : Array Value) (n : Nat) : (Builtin.zeroCells z n).size = n * z.size := by simp [Builtin.zeroCells]

/-- A new row for append. -/
theorem new_row {ρ : Rho} {w : World} (hs : St ρ H w) {α : Type} {sz : Nat} {enc : α → List Value} (dd : α) {xs : List α} (k1 : ∀ x, (enc x).length = sz) (k2 : ∀ x, ∀ v ∈ enc x, v.oneCell' = true) (hsz : 0 < sz) (tail : Array Value) (el : TypeId) (c : Nat) (hc : xs.length ≤ c) (ht : tail.size = (c - xs.length) * sz) :
    ∃ ρ', Rep ρ' (.slc H.length 0 xs.length none) (.slice (some ⟨w.heap.size, 0, none⟩) xs.length c) ∧
      St ρ' (H ++ [.arr α true sz enc dd xs]) (w.drew.alloc (.cells ((xs.flatMap enc).toArray ++ tail) el)) ∧ Ev ρ H w ρ' (H ++ [.arr α true sz enc dd xs]) (w.drew.alloc (.cells ((xs.flatMap enc).toArray ++ tail) el)) := by
  have hs' : St ρ H w.drew := hs.heap rfl
  have hfl := flatMap_len k1 xs
  have hnew := hs'.new (vs := (xs.flatMap enc).toArray ++ tail) (t := el) (obj := .arr α true sz enc dd xs) (sz := sz) rfl (by
    simp only [okO]
    refine ⟨k1, k2, .inr ⟨_, rfl⟩, fun I hI => ?_⟩
    simp only [Option.some.injEq] at hI
    subst hI
    refine ⟨rfl, by simp, ?_, fun _ => ⟨_, el, heap_alloc_new _ _, rfl⟩⟩
    refine Cells.of_flat k1 hsz fun j v hj => ?_
    rw [cell_at (heap_alloc_new _ _)]
    have hlt := (List.getElem?_eq_some_iff.1 hj).1
    rw [Nat.zero_add, Array.getElem?_append_left (by simpa using hlt)]
    simpa using hj)
  refine ⟨_, ?_, hnew.1, (Ev.heap (w := w) (w' := w.drew) rfl rfl rfl rfl).trans hnew.2⟩
  simp only [Rep]
  refine .inl ⟨_, c, by rw [← hs.len]; exact getElem_snoc_len _ _, by simp, hc, ?_, fun k hk => by cases hk⟩
  simp only [Array.size_append, List.size_toArray, hfl, ht, Nat.zero_add]
  rw [← Nat.add_mul]
  exact Nat.mul_le_mul_right _ (by omega)

/-- An empty row that lies nowhere. -/
theorem no_row {ρ : Rho} {w : World} (hs : St ρ H w) {α : Type} {sz : Nat} {enc : α → List Value} (dd : α) (k1 : ∀ x, (enc x).length = sz) (k2 : ∀ x, ∀ v ∈ enc x, v.oneCell' = true) (ad : Option Addr) :
    ∃ ρ', Rep ρ' (.slc H.length 0 0 none) (.slice ad 0 0) ∧ St ρ' (H ++ [.arr α true sz enc dd []]) w ∧ Ev ρ H w ρ' (H ++ [.arr α true sz enc dd []]) w := by
  have h1 : St (ρ ++ [none]) (H ++ [.arr α true sz enc dd []]) w := hs.snoc rfl (by simp only [okO]; exact ⟨k1, k2, .inl (by trivial), fun I hI => by cases hI⟩) (fun I hI => by cases hI)
  refine ⟨ρ ++ [none], ?_, h1, List.prefix_append _ _, Nat.le_refl _, rfl, rfl, rfl, fun _ _ _ => rfl, fun b hb => .inl ?_⟩
  · simp only [Rep]; exact .inr ⟨by simp, ⟨_, rfl⟩, fun k hk => by cases hk⟩
  · obtain ⟨o, I, x, h1, h2, h3, h4⟩ := hb
    rcases get_snoc h1 with ⟨a1, a2⟩ | ⟨a1, a2⟩
    · rcases get_snoc h2 with ⟨b1, b2⟩ | ⟨b1, b2⟩
      · exact ⟨o, I, x, a2, b2, h3, h4⟩
      · have := hs.len; omega
    · cases a2

/-- append to nothing (nil, or a slice without room), or to a full row that is left alone. -/
theorem do_append_new {T rt : TypeId} {x y : Operand} {el : TypeId} {n by_ : Nat} {z : List Value} {o off len o2 off2 len2 : Nat} {cap2 : Option Nat} [hT : TySl P T el n by_ z] (hx : ev e x = some (.slc o off len (some len))) (hy : ev e y = some (.slc o2 off2 len2 cap2))
    {α : Type} {own own2 : Bool} {sz : Nat} {enc : α → List Value} {dd dd2 : α} {xs ys : List α} (ho : H[o]? = some (.arr α own sz enc dd xs)) (ho2 : H[o2]? = some (.arr α own2 sz enc dd2 ys)) (hn : sz = n)
    (h1 : off + len ≤ xs.length) (h2 : off2 + len2 ≤ ys.length) (h3 : len = 0 ∨ 0 < len2) (hb : (len + len2) * by_ ≤ 140737488355328) (h63 : ((len + len2 : Nat) : Int) ≤ 9223372036854775807)
    (k : K (.slc H.length 0 (len + len2) none) (H ++ [.arr α true sz enc dd (cut xs off len ++ cut ys off2 len2)])) : OpDo P r ⟨d, .call ⟨.builtin .append, #[x, y], #[T, T]⟩, rt, ps, af, g⟩ e H K := by
  refine ⟨by simp, fun ρ a w he hs => ?_⟩
  obtain ⟨t1, i, zv, t2, t3, t4, t5, t6, t7, t8⟩ := hT.out
  have hx' := he.ev hx
  have hsz : 0 < sz := by omega
  obtain ⟨ad, c, e1, f1⟩ := first_slc (P := P) hs hx' ho hsz h1
  obtain ⟨ad2, c2, e2, f2⟩ := first_slc (P := P) hs (he.ev hy) ho2 hsz h2
  have hc : c = len := by
    simp only [Rep] at hx'
    rw [e1] at hx'
    rcases hx' with ⟨I, c', q1, q2, q3, q4, q5⟩ | ⟨q1, ⟨ad', q2⟩, q3⟩
    · simp only [Value.slice.injEq] at q2; rw [q2.2.2]; exact q5 len rfl
    · simp only [Value.slice.injEq] at q2; rw [q2.2.2]; omega
  subst hc
  obtain ⟨k1, k2⟩ : (∀ x, (enc x).length = sz) ∧ ∀ x, ∀ v ∈ enc x, v.oneCell' = true := by
    have hlt : o < ρ.length := by rw [hs.len]; exact (List.getElem?_eq_some_iff.1 ho).1
    have hk := hs.ok o _ _ ho (List.getElem?_eq_getElem hlt)
    simp only [okO] at hk
    exact ⟨hk.1, hk.2.1⟩
  have hcl := cut_len h1
  have hcl2 := cut_len h2
  by_cases hz : c + len2 = 0
  · obtain ⟨rfl, rfl⟩ : c = 0 ∧ len2 = 0 := by omega
    obtain ⟨ρ', r1, r2, r3⟩ := no_row hs (enc := enc) dd k1 k2 ad
    have hrun : (Builtin.append_ #[T, T] rt #[.slice ad 0 0, .slice ad2 0 c2]).run P w = .ok (.slice ad 0 0) w := by
      have := f2 w rfl
      rw [run_first_none] at this
      cases ad with
      | none => simp [Builtin.append_, run_underlying t1, sizeOf, typeInfo, t2, Builtin.lenOf, run_first_none]
      | some a => simp [Builtin.append_, run_underlying t1, sizeOf, typeInfo, t2, Builtin.lenOf, run_first_none, storeCells]
    refine ⟨.value (.slice ad 0 0), w, ?_, ρ', .slc H.length 0 0 none, H ++ [.arr α true sz enc dd []], r1, r2, r3, by simpa [cut] using k⟩
    simp [execOp, resolve, invoke, builtin, e1, e2, hrun]
  · have hlen : (cut xs off c ++ cut ys off2 len2).length = c + len2 := by rw [List.length_append, hcl, hcl2]
    have hrun := run_append_new (P := P) (w := w) T rt el i zv t1 t2 t6 ad ad2 c c len2 c2 _ _ (by rw [t3, ← hn]; exact f1) (by rw [t3, ← hn]; exact f2) (by omega) h63 (by rw [t4]; exact hb)
    obtain ⟨ρ', r1, r2, r3⟩ := new_row hs dd (xs := cut xs off c ++ cut ys off2 len2) k1 k2 hsz (Builtin.zeroCells zv.cells (grownCap w (c + len2) c el - (c + len2))) el (grownCap w (c + len2) c el) (by rw [hlen]; exact grownCap_ge _ _ _ _)
      (by rw [size_zero, t7, hlen, hn, ← t8]; simp)
    rw [hlen] at r1
    have e3 : ((cut xs off c).flatMap enc).toArray ++ ((cut ys off2 len2).flatMap enc).toArray = ((cut xs off c ++ cut ys off2 len2).flatMap enc).toArray := by simp
    rw [e3] at hrun
    refine ⟨.value (.slice (some ⟨w.heap.size, 0, none⟩) (c + len2) (grownCap w (c + len2) c el)), _, ?_, ρ', _, _, r1, r2, r3, k⟩
    simp only [execOp, resolve, invoke, builtin, Sem.run_bind, Sem.run_pure, Result.andThen_ok, List.map_toArray, List.map_cons, List.map_nil, e1, e2, hrun]

theorem Sx.SO_props {ρ : Rho} {H : List SO} {w : World} (hs : St ρ H w) {o : Nat} {α : Type} {own : Bool} {sz : Nat} {enc : α → List Value} {dd : α} {xs : List α} (ho : H[o]? = some (.arr α own sz enc dd xs)) :
    (∀ x, (enc x).length = sz) ∧ ∀ x, ∀ v ∈ enc x, v.oneCell' = true := by
  have hlt : o < ρ.length := by rw [hs.len]; exact (List.getElem?_eq_some_iff.1 ho).1
  have hk := hs.ok o _ _ ho (List.getElem?_eq_getElem hlt)
  simp only [okO] at hk
  exact ⟨hk.1, hk.2.1⟩

/-- append to a row of our own: the old name is gone. -/
theorem do_append_own {T rt : TypeId} {x y : Operand} {el : TypeId} {n by_ : Nat} {z : List Value} {o off len o2 off2 len2 : Nat} {cap cap2 : Option Nat} [hT : TySl P T el n by_ z] (hx : ev e x = some (.slc o off len cap)) (hy : ev e y = some (.slc o2 off2 len2 cap2))
    {α : Type} {own2 : Bool} {sz : Nat} {enc : α → List Value} {dd dd2 : α} {xs ys : List α} (ho : H[o]? = some (.arr α true sz enc dd xs)) (ho2 : H[o2]? = some (.arr α own2 sz enc dd2 ys)) (hn : sz = n)
    (h1 : off + len ≤ xs.length) (h2 : off2 + len2 ≤ ys.length) (hb : (len + len2) * by_ ≤ 140737488355328) (h63 : ((len + len2 : Nat) : Int) ≤ 9223372036854775807)
    (k : K (.slc H.length 0 (len + len2) none) (H.set o .dead ++ [.arr α true sz enc dd (cut xs off len ++ cut ys off2 len2)])) : OpDo P r ⟨d, .call ⟨.builtin .append, #[x, y], #[T, T]⟩, rt, ps, af, g⟩ e H K := by
  refine ⟨by simp, fun ρ a w he hs => ?_⟩
  obtain ⟨t1, i, zv, t2, t3, t4, t5, t6, t7, t8⟩ := hT.out
  have hx' := he.ev hx
  have hsz : 0 < sz := by omega
  obtain ⟨k1, k2⟩ := Sx.SO_props hs ho
  obtain ⟨ad, c, e1, f1⟩ := first_slc (P := P) hs hx' ho hsz h1
  obtain ⟨ad2, c2, e2, f2⟩ := first_slc (P := P) hs (he.ev hy) ho2 hsz h2
  have hcl := cut_len h1
  have hcl2 := cut_len h2
  have hfl2 := flatMap_len k1 (cut ys off2 len2)
  have hfl1 := flatMap_len k1 (cut xs off len)
  have hlen : (cut xs off len ++ cut ys off2 len2).length = len + len2 := by rw [List.length_append, hcl, hcl2]
  -- the world with the old name gone
  have hdead : St ρ (H.set o .dead) w ∧ Ev ρ H w ρ (H.set o .dead) w := by
    have hlt : o < ρ.length := by rw [hs.len]; exact (List.getElem?_eq_some_iff.1 ho).1
    cases hI : ρ[o] with
    | none =>
      have h0 : ρ[o]? = some none := by rw [List.getElem?_eq_getElem hlt, hI]
      refine ⟨⟨by simp [hs.len], fun o2 y io hy hio => ?_, fun o1 o2 I1 I2 y1 y2 a1 a2 b1 b2 c1 c2 dq => ?_, fun o1 o2 I1 I2 y1 y2 a1 a2 b1 b2 c1 c2 c3 dq => ?_⟩, List.prefix_refl _, Nat.le_refl _, rfl, rfl, rfl, fun _ _ _ => rfl, fun b hb => .inl ?_⟩
      · rcases get_set hy with ⟨e, e2, _⟩ | ⟨hne, hy⟩
        · subst e2; trivial
        · exact hs.ok o2 y io hy hio
      · rcases get_set b1 with ⟨e, e2, _⟩ | ⟨hne, b1⟩
        · subst e2; cases c1
        · rcases get_set b2 with ⟨e, e2, _⟩ | ⟨hne, b2⟩
          · subst e2; cases c2
          · exact hs.inj o1 o2 I1 I2 y1 y2 a1 a2 b1 b2 c1 c2 dq
      · rcases get_set b1 with ⟨e, e2, _⟩ | ⟨hne, b1⟩
        · subst e2; cases c1
        · rcases get_set b2 with ⟨e, e2, _⟩ | ⟨hne, b2⟩
          · subst e2; exact c3 rfl
          · exact hs.ro o1 o2 I1 I2 y1 y2 a1 a2 b1 b2 c1 c2 c3 dq
      · obtain ⟨o1, I1, yy, q1, q2, q3, q4⟩ := hb
        rcases get_set q2 with ⟨e, e2, _⟩ | ⟨hne, hy⟩
        · subst e2; cases q3
        · exact ⟨o1, I1, yy, q1, hy, q3, q4⟩
    | some I =>
      have h0 : ρ[o]? = some (some I) := by rw [List.getElem?_eq_getElem hlt, hI]
      exact ⟨hs.put h0 ho rfl (.inr rfl) (fun _ _ => rfl) rfl trivial, Ev.put h0 ho rfl (fun _ _ => rfl) rfl rfl rfl rfl⟩
  have hl0 : (H.set o .dead).length = H.length := by simp
  by_cases hg : len + len2 ≤ c
  · -- in place
    simp only [Rep] at hx'
    rw [e1] at hx'
    rcases hx' with ⟨I, c', q1, q2, q3, q4, q5⟩ | ⟨q1, ⟨ad', q2⟩, q3⟩
    · simp only [Value.slice.injEq] at q2
      obtain ⟨q2, _, rfl⟩ := q2
      have hk := hs.ok o _ _ ho q1
      simp only [okO] at hk
      obtain ⟨k5, k6, k7, k8⟩ := hk.2.2.2 I rfl
      obtain ⟨cur, e', k9, k10⟩ := k8 trivial
      have hk5 : off * I.sz = off * sz := by rw [k5]
      have hfit : I.base + off * I.sz + len * i.size + ((cut ys off2 len2).flatMap enc).length ≤ cur.size := by
        rw [hfl2, hcl2, t3, ← hn, k5, ← k10]
        have : I.base + (off + (len + len2)) * I.sz ≤ I.size := Nat.le_trans (Nat.add_le_add_left (Nat.mul_le_mul_right _ (by omega)) _) q4
        rw [k5, Nat.add_mul, Nat.add_mul] at this
        omega
      have hrun := run_append_put (P := P) (w := w) T rt el i t1 t2 I.b (I.base + off * I.sz) ad2 len c len2 c2 _ cur e' k9 (by rw [t3, ← hn]; exact f2 w rfl) (enc_mem k2 _) hg hfit
      rw [← q2] at hrun
      generalize hw' : w.setRow I.b (cur.toList.take (I.base + off * I.sz + len * i.size) ++ (cut ys off2 len2).flatMap enc ++ cur.toList.drop (I.base + off * I.sz + len * i.size + ((cut ys off2 len2).flatMap enc).length)).toArray = w' at hrun
      have hrow : w'.heap[I.b]? = some (.cells (cur.toList.take (I.base + off * I.sz + len * i.size) ++ (cut ys off2 len2).flatMap enc ++ cur.toList.drop (I.base + off * I.sz + len * i.size + ((cut ys off2 len2).flatMap enc).length)).toArray e' (0, 0)) := by
        rw [← hw']; exact setRow_heap w I.b cur _ e' _ k9
      have hoth : ∀ b, b ≠ I.b → w'.heap[b]? = w.heap[b]? := fun b hb => by rw [← hw']; exact setRow_other w I.b b _ hb
      have hsz' : w'.heap.size = w.heap.size := by rw [← hw']; simp
      have hst1 : St ρ (H.set o .dead) w' := hs.put q1 ho rfl (.inr rfl) hoth hsz' trivial
      have hev1 : Ev ρ H w ρ (H.set o .dead) w' := Ev.put q1 ho rfl hoth hsz' (by rw [← hw']; rfl) (by rw [← hw']; rfl) (by rw [← hw']; rfl)
      have hcs : cur.size = cur.toList.length := by simp
      have hnsz : (cur.toList.take (I.base + off * I.sz + len * i.size) ++ (cut ys off2 len2).flatMap enc ++ cur.toList.drop (I.base + off * I.sz + len * i.size + ((cut ys off2 len2).flatMap enc).length)).toArray.size = cur.size := by
        simp only [List.size_toArray, List.length_append, List.length_take, List.length_drop]; omega
      have hcells : Cells w' ⟨I.b, I.base + off * I.sz, sz, I.size⟩ sz enc (cut xs off len ++ cut ys off2 len2) := by
        refine Cells.of_flat k1 hsz fun j v hj => ?_
        simp only
        rw [cell_at hrow]
        rw [List.flatMap_append] at hj
        have hp : (I.base + off * I.sz + len * i.size) = I.base + off * I.sz + ((cut xs off len).flatMap enc).length := by rw [hfl1, hcl, t3, hn]
        rcases Nat.lt_or_ge j ((cut xs off len).flatMap enc).length with hjl | hjl
        · rw [List.getElem?_append_left hjl] at hj
          have hc0 := k7.flat k1 hsz off len j v hj
          rw [cell_at k9] at hc0
          rw [k5] at hp ⊢
          simp only [List.getElem?_toArray, List.append_assoc]
          rw [List.getElem?_append_left (by rw [List.length_take]; omega), List.getElem?_take, if_pos (by omega)]
          simpa using hc0
        · rw [List.getElem?_append_right hjl] at hj
          simp only [List.getElem?_toArray, List.append_assoc]
          have hj2 := (List.getElem?_eq_some_iff.1 hj).1
          rw [List.getElem?_append_right (by rw [List.length_take]; omega), List.length_take, Nat.min_eq_left (by omega), List.getElem?_append_left (by omega)]
          rw [← hj]; congr 1; omega
      have hst2 : St (ρ ++ [some ⟨I.b, I.base + off * I.sz, sz, I.size⟩]) (H.set o .dead ++ [.arr α true sz enc dd (cut xs off len ++ cut ys off2 len2)]) w' := by
        refine hst1.snoc rfl ?_ ?_
        · simp only [okO]
          refine ⟨k1, k2, .inr ⟨_, rfl⟩, fun I' hI' => ?_⟩
          simp only [Option.some.injEq] at hI'
          subst hI'
          exact ⟨rfl, by rw [hsz']; exact k6, hcells, fun _ => ⟨_, e', hrow, by rw [hnsz]; exact k10⟩⟩
        · intro I' hI' o3 I3 x3 p1 p2 p3
          simp only [Option.some.injEq] at hI'
          subst hI'
          simp only
          intro heq
          rcases get_set p2 with ⟨_, e2, _⟩ | ⟨hne, p2⟩
          · exact p3 e2.symm
          · cases hx3 : x3.own with
            | true => exact hne (hs.inj o3 o I3 I x3 _ p1 q1 p2 ho hx3 rfl heq)
            | false => exact hs.ro o o3 I I3 _ x3 q1 p1 ho p2 rfl hx3 (fun e => p3 e) heq.symm
      have hev2 : Ev ρ (H.set o .dead) w' (ρ ++ [some ⟨I.b, I.base + off * I.sz, sz, I.size⟩]) (H.set o .dead ++ [.arr α true sz enc dd (cut xs off len ++ cut ys off2 len2)]) w' ∨ True := .inr trivial
      have hev : Ev ρ H w (ρ ++ [some ⟨I.b, I.base + off * I.sz, sz, I.size⟩]) (H.set o .dead ++ [.arr α true sz enc dd (cut xs off len ++ cut ys off2 len2)]) w' := by
        refine ⟨List.prefix_append _ _, hev1.size, hev1.os, hev1.tape, hev1.output, hev1.block, fun b hb => ?_⟩
        obtain ⟨o1, I1, yy, p1, p2, p3, p4⟩ := hb
        rcases get_snoc p2 with ⟨b1, b2⟩ | ⟨b1, b2⟩
        · rcases get_snoc p1 with ⟨a1, a2⟩ | ⟨a1, a2⟩
          · exact hev1.own b ⟨o1, I1, yy, a2, b2, p3, p4⟩
          · have := hs.len; omega
        · rcases get_snoc p1 with ⟨a1, a2⟩ | ⟨a1, a2⟩
          · have := hs.len; omega
          · simp only [Option.some.injEq] at a2
            subst a2
            exact .inl ⟨o, I, _, q1, ho, rfl, p4⟩
      refine ⟨.value (.slice ad (len + len2) c), w', ?_, _, _, _, ?_, hst2, hev, k⟩
      · simp only [execOp, resolve, invoke, builtin, Sem.run_bind, Sem.run_pure, Result.andThen_ok, List.map_toArray, List.map_cons, List.map_nil, e1, e2, hrun]
      · simp only [Rep]
        refine .inl ⟨_, c, by rw [← hs.len]; exact getElem_snoc_len _ _, by rw [q2]; simp, hg, ?_, fun kk hkk => by cases hkk⟩
        simp only [Nat.zero_add]
        rw [k5] at q4 ⊢
        rw [Nat.add_mul] at q4
        omega
    · -- no room, nothing to put
      simp only [Value.slice.injEq] at q2
      obtain ⟨_, rfl, rfl⟩ := q2
      obtain rfl : len2 = 0 := by omega
      obtain ⟨ρ', r1, r2, r3⟩ := no_row hdead.1 (enc := enc) dd k1 k2 ad
      have hrun : (Builtin.append_ #[T, T] rt #[.slice ad 0 0, .slice ad2 0 c2]).run P w = .ok (.slice ad 0 0) w := by
        have := f2 w rfl
        rw [run_first_none] at this
        cases ad with
        | none => simp [Builtin.append_, run_underlying t1, sizeOf, typeInfo, t2, Builtin.lenOf, run_first_none]
        | some a => simp [Builtin.append_, run_underlying t1, sizeOf, typeInfo, t2, Builtin.lenOf, run_first_none, storeCells]
      rw [hl0] at r1
      refine ⟨.value (.slice ad 0 0), w, ?_, ρ', .slc H.length 0 0 none, H.set o .dead ++ [.arr α true sz enc dd []], r1, r2, hdead.2.trans r3, by simpa [cut] using k⟩
      simp [execOp, resolve, invoke, builtin, e1, e2, hrun]
  · have hrun := run_append_new (P := P) (w := w) T rt el i zv t1 t2 t6 ad ad2 len c len2 c2 _ _ (by rw [t3, ← hn]; exact f1) (by rw [t3, ← hn]; exact f2) (by omega) h63 (by rw [t4]; exact hb)
    obtain ⟨ρ', r1, r2, r3⟩ := new_row hdead.1 dd (xs := cut xs off len ++ cut ys off2 len2) k1 k2 hsz (Builtin.zeroCells zv.cells (grownCap w (len + len2) c el - (len + len2))) el (grownCap w (len + len2) c el) (by rw [hlen]; exact grownCap_ge _ _ _ _)
      (by rw [size_zero, t7, hlen, hn, ← t8]; simp)
    rw [hlen, hl0] at r1
    have e3 : ((cut xs off len).flatMap enc).toArray ++ ((cut ys off2 len2).flatMap enc).toArray = ((cut xs off len ++ cut ys off2 len2).flatMap enc).toArray := by simp
    rw [e3] at hrun
    refine ⟨.value (.slice (some ⟨w.heap.size, 0, none⟩) (len + len2) (grownCap w (len + len2) c el)), _, ?_, ρ', _, _, r1, r2, hdead.2.trans r3, k⟩
    simp only [execOp, resolve, invoke, builtin, Sem.run_bind, Sem.run_pure, Result.andThen_ok, List.map_toArray, List.map_cons, List.map_nil, e1, e2, hrun]
end app
end Go.Sx

set_option linter.unusedVariables false
set_option linter.unusedSimpArgs false
namespace Go.Sx
open Go Go.RowKit

/-- Where a walk began: what was known, the heap, the world; how many temporaries; the deferred calls; the round of a range over a function, if any. -/
structure Cx where
  ρ : Rho
  H : List SO
  w : World
  nt : Nat
  D : List Deferred
  r : Option Nat

/-- The deferred calls: the marks of ranges over functions (their blocks lie as they were laid), ahead of those that were there. -/
def Mk (C : Cx) (ρ : Rho) (H : List SO) (w : World) (ds : List Deferred) : Prop :=
  ∃ rs : List Nat, ds = rs.map (fun r => ({ target := .collected r, args := #[] } : Deferred)) ++ C.D ∧ rs.Nodup ∧
    ∀ r ∈ rs, C.w.heap.size ≤ r ∧ w.heap[r]? = some (.deferred (some [])) ∧ ¬ OwnB ρ H r
theorem Mk.step {C : Cx} {ρ ρ' : Rho} {H H' : List SO} {w w' : World} {ds : List Deferred} (h : Mk C ρ H w ds) (hev : Ev ρ H w ρ' H' w') : Mk C ρ' H' w' ds := by
  obtain ⟨rs, h1, h2, h3⟩ := h
  refine ⟨rs, h1, h2, fun r hr => ?_⟩
  obtain ⟨a1, a2, a3⟩ := h3 r hr
  have hlt := (Array.getElem?_eq_some_iff.1 a2).1
  refine ⟨a1, (hev.block r hlt a3).trans a2, fun ho => ?_⟩
  rcases hev.own r ho with q | q
  · exact a3 q
  · omega
theorem Mk.weak {C : Cx} {ρ ρ' : Rho} {H H' : List SO} {w : World} {ds : List Deferred} (h : Mk C ρ H w ds) (ho : ∀ b, OwnB ρ' H' b → OwnB ρ H b) : Mk C ρ' H' w ds := by
  obtain ⟨rs, h1, h2, h3⟩ := h
  exact ⟨rs, h1, h2, fun r hr => ⟨(h3 r hr).1, (h3 r hr).2.1, fun q => (h3 r hr).2.2 (ho r q)⟩⟩
theorem Mk.nil {C : Cx} {ρ : Rho} {H : List SO} {w : World} : Mk C ρ H w C.D := ⟨[], rfl, List.nodup_nil, fun r hr => by cases hr⟩
def At (C : Cx) (e : Env) (H : List SO) (a : Act) (w : World) : Prop :=
  ∃ ρ, EnvOK ρ e a ∧ St ρ H w ∧ Ev C.ρ C.H C.w ρ H w ∧ a.tmps.size = C.nt ∧ Mk C ρ H w a.defers

/-- An end of a walk, said of symbolic states. -/
def PQ (C : Cx) (K : Exit → Env → List SO → Prop) (x : Exit) (a : Act) (w : World) : Prop := ∃ e H, K x e H ∧ At C e H a w

def W (P : Program) (C : Cx) (c : Code) (e : Env) (H : List SO) (K : Exit → Env → List SO → Prop) : Prop := ∀ a w, At C e H a w → c.wpIn (Fr C.r) 0 P (PQ C K) a w

section rules
variable {P : Program} {C : Cx} {e : Env} {H : List SO} {K : Exit → Env → List SO → Prop}

theorem W.mono {c : Code} {K' : Exit → Env → List SO → Prop} (h : W P C c e H K) (hk : ∀ x e H, K x e H → K' x e H) : W P C c e H K' :=
  fun a w hat => wpIn_mono (h a w hat) fun x a w ⟨e, H, k, q⟩ => ⟨e, H, hk _ _ _ k, q⟩

/-- On behind the first part of a sequence. -/
def Nx (P : Program) (C : Cx) (y : Code) (K : Exit → Env → List SO → Prop) : Exit → Env → List SO → Prop
  | .normal, e, H => W P C y e H K
  | x, e, H => K x e H
theorem w_seq {x y : Code} (h : W P C x e H (Nx P C y K)) : W P C (.seq x y) e H K := fun a w hat => by
  refine wpIn_seq (wpIn_mono (h a w hat) ?_)
  rintro x a' w' ⟨e', H', k, q⟩
  cases x with
  | normal => exact k a' w' q
  | _ => exact ⟨e', H', k, q⟩
theorem w_skip (h : K .normal e H) : W P C .skip e H K := fun a w hat => wpIn_skip ⟨e, H, h, hat⟩
theorem w_ret (h : K .ret e H) : W P C .ret e H K := fun a w hat => wpIn_ret ⟨e, H, h, hat⟩
theorem w_exit {i : Nat} (h : K (.exit i) e H) : W P C (.exit i) e H K := fun a w hat => wpIn_exit ⟨e, H, h, hat⟩
theorem w_cond {c : Operand} {x y : Code} {b : Bool} (hc : ev e c = some (.val (.bool b))) (ht : b = true → W P C x e H K) (hf : b = false → W P C y e H K) : W P C (.cond c x y) e H K := fun a w hat => by
  obtain ⟨ρ, h1, h2⟩ := hat
  have hv := h1.ev hc
  simp only [Rep] at hv
  exact wpIn_cond_split hv (fun h => ht h a w ⟨ρ, h1, h2⟩) (fun h => hf h a w ⟨ρ, h1, h2⟩)
def Bl (i : Nat) (K : Exit → Env → List SO → Prop) : Exit → Env → List SO → Prop
  | .exit j, e, H => bif Nat.beq j i then K .normal e H else K (.exit j) e H
  | x, e, H => K x e H
theorem w_block {i : Nat} {c : Code} (h : W P C c e H (Bl i K)) : W P C (.block i c) e H K := fun a w hat => by
  refine wpIn_block (wpIn_mono (h a w hat) ?_)
  rintro x a' w' ⟨e', H', k, q⟩
  cases x with
  | exit j =>
    simp only [Exit.inBlock, Bl] at k ⊢
    by_cases hj : j = i
    · subst hj
      rw [if_pos rfl]
      have hb : Nat.beq j j = true := by simp
      rw [hb] at k
      exact ⟨e', H', k, q⟩
    · rw [if_neg hj]
      have hb : Nat.beq j i = false := by
        cases hb : Nat.beq j i with
        | false => rfl
        | true => exact (hj (Nat.eq_of_beq_eq_true hb)).elim
      rw [hb] at k
      exact ⟨e', H', k, q⟩
  | _ => exact ⟨e', H', k, q⟩

theorem least_ex (J : Nat → Prop) (h : ∃ n, J n) : ∃ n, J n ∧ ∀ m, J m → n ≤ m := by
  obtain ⟨n, hn⟩ := h
  induction n using Nat.strongRecOn with
  | _ n ih =>
    by_cases hm : ∃ m, m < n ∧ J m
    · obtain ⟨m, h1, h2⟩ := hm
      exact ih m h1 h2
    · exact ⟨n, hn, fun m hj => Nat.le_of_not_lt fun hlt => hm ⟨m, hlt, hj⟩⟩
open Classical in
noncomputable def leastN (J : Nat → Prop) : Nat := if h : ∃ n, J n ∧ ∀ m, J m → n ≤ m then h.choose else 0
theorem leastN_spec {J : Nat → Prop} (h : ∃ n, J n) : J (leastN J) ∧ ∀ m, J m → leastN J ≤ m := by
  have h' := least_ex J h
  unfold leastN
  rw [dif_pos h']
  exact h'.choose_spec

/-- A loop: a family of states by what is left to do. -/
def Lp (I : Nat → Env → List SO → Prop) (n : Nat) (K : Exit → Env → List SO → Prop) : Exit → Env → List SO → Prop
  | .normal, e, H => ∃ m, m < n ∧ I m e H
  | x, e, H => K x e H
theorem w_loop {c : Code} (I : Nat → Env → List SO → Prop) (h0 : ∃ n, I n e H) (round : ∀ n e H, I n e H → W P C c e H (Lp I n K)) : W P C (.loop c) e H K := fun a w hat => by
  refine wpIn_loop (fun a w => ∃ n, ∃ e H, I n e H ∧ At C e H a w) (fun a w => leastN fun n => ∃ e H, I n e H ∧ At C e H a w) ?_ ?_
  · obtain ⟨n, hn⟩ := h0
    exact ⟨n, e, H, hn, hat⟩
  · intro a w hI
    obtain ⟨⟨e', H', hi, hat'⟩, _⟩ := leastN_spec hI
    refine wpIn_mono (round _ e' H' hi a w hat') ?_
    rintro x a2 w2 ⟨e2, H2, k, q⟩
    cases x with
    | normal =>
      obtain ⟨m, hm, hi2⟩ := k
      have hex : ∃ n, ∃ e H, I n e H ∧ At C e H a2 w2 := ⟨m, e2, H2, hi2, q⟩
      exact ⟨hex, Nat.lt_of_le_of_lt ((leastN_spec hex).2 m ⟨e2, H2, hi2, q⟩) hm⟩
    | _ => exact ⟨e2, H2, k, q⟩

/-! ### Regions in the text's order -/
def RW (P : Program) (C : Cx) (ops : Array Oper) (rest : List Oper) (e : Env) (H : List SO) (K : Exit → Env → List SO → Prop) : Prop :=
  ∀ a w, At C e H a w → wpListIn (Fr C.r) 0 P ops (PQ C K) rest a w
theorem w_region {id : Nat} {l : List Oper} (h : RW P C l.toArray l e H K) : W P C (.region id l.toArray false) e H K := fun a w hat => wpIn_region_lit (h a w hat)
theorem rw_nil {ops : Array Oper} (h : K .normal e H) : RW P C ops [] e H K := fun a w hat => wpListIn_nil ⟨e, H, h, hat⟩

def dstOK (d : Option Tmp) (nt : Nat) : Bool := match d with | some t => Nat.blt t nt | none => true
theorem dstOK_lt {d : Option Tmp} {nt : Nat} (h : dstOK d nt = true) : ∀ t, d = some t → t < nt := by
  intro t ht
  subst ht
  simpa [dstOK] using h

theorem at_put {ρ : Rho} {a : Act} {w : World} (he : EnvOK ρ e a) (hsz : a.tmps.size = C.nt) (hdf : Mk C ρ H w a.defers) (hev : Ev C.ρ C.H C.w ρ H w) {d : Option Tmp} (hd : dstOK d C.nt = true) {ρ' : Rho} {s : SV} {v : Value} {H' : List SO} {w' : World}
    (h1 : Rep ρ' s v) (h2 : St ρ' H' w') (h3 : Ev ρ H w ρ' H' w') : At C (putO e d s) H' (a.put d v) w' := by
  refine ⟨ρ', (he.ext h3.ext).put h1 d (fun t ht => by rw [hsz]; exact dstOK_lt hd t ht), h2, hev.trans h3, ?_, ?_⟩
  · cases d <;> simp [Act.put, hsz]
  · have := hdf.step h3
    cases d <;> exact this

/-- From what an operation does to the kit's own word for it. -/
theorem OpDo.wp {o : Oper} {K' : SV → List SO → Prop} {next : Act → World → Prop} {Q : Exit → Act → World → Prop} (h : OpDo P C.r o e H K') (hd : dstOK o.dst C.nt = true)
    (hn : ∀ s H' a w, K' s H' → At C (putO e o.dst s) H' a w → next a w) {a : Act} {w : World} (hat : At C e H a w) : o.wpIn (Fr C.r) 0 P a w next Q := by
  obtain ⟨ρ, he, hs, hev, hsz, hdf⟩ := hat
  obtain ⟨hdef, h⟩ := h
  obtain ⟨n, w', hr, hk⟩ := h ρ a w he hs
  refine ⟨fun _ _ => trivial, ?_⟩
  rw [Oper.semAt_eq _ _ _ hdef, hr]
  cases n with
  | value v =>
    obtain ⟨ρ', s, H', h1, h2, h3, h4⟩ := hk
    exact hn s H' _ _ h4 (at_put he hsz hdf hev hd h1 h2 h3)
  | skip =>
    obtain ⟨ρ', s, H', h1, h2, h3, h4⟩ := hk
    exact hn s H' _ _ h4 (at_put he hsz hdf hev hd h1 h2 h3)
  | enter f args =>
    obtain ⟨rfl, hc⟩ := hk
    refine ⟨Fr.depth _, ?_⟩
    have hc' : CallsIn (Fr C.r) 0 P f args w' (Ends ρ H w' K') := by
      cases hr : C.r with
      | none => exact hc
      | some l => exact CallsIn.inRound l hc
    refine hc'.mono ?_
    rintro ed w2 ⟨v, rfl, ρ', s, H', h1, h2, h3, h4⟩
    exact hn s H' _ _ h4 (at_put he hsz hdf hev hd h1 h2 h3)
  | round l f tmps assign body =>
    obtain ⟨rfl, hc⟩ := hk
    refine ⟨Fr.depth _, ?_⟩
    have hc' : RoundIn (Fr C.r) 0 P l f tmps assign body w' (Ends ρ H w' K') := by
      cases hr : C.r with
      | none => exact hc
      | some l => exact hc
    refine hc'.mono ?_
    rintro ed w2 ⟨v, rfl, ρ', s, H', h1, h2, h3, h4⟩
    exact hn s H' _ _ h4 (at_put he hsz hdf hev hd h1 h2 h3)
  | _ => exact hk.elim

theorem rw_cons {ops : Array Oper} {o : Oper} {rest : List Oper} (hg : o.guard = none) (hd : dstOK o.dst C.nt = true) (h : OpDo P C.r o e H fun s H' => RW P C ops rest (putO e o.dst s) H' K) : RW P C ops (o :: rest) e H K := fun a w hat => by
  simp only [wpListIn, Region.wanted, hg, if_true]
  exact h.wp hd (fun s H' a w k q => k a w q) hat

/-- A guarded operation. -/
theorem rw_guard {ops : Array Oper} {o : Oper} {rest : List Oper} {j : Nat} {want b : Bool} {gd : Tmp} (hg : o.guard = some (j, want)) (hj : (ops[j]?).bind (·.dst) = some gd) (hb : e.get gd = some (.val (.bool b))) (hgd : Nat.blt gd C.nt = true) (hd : dstOK o.dst C.nt = true)
    (h1 : b = want → OpDo P C.r o e H fun s H' => RW P C ops rest (putO e o.dst s) H' K) (h2 : b ≠ want → RW P C ops rest (putO e o.dst (.val undef)) H K) : RW P C ops (o :: rest) e H K := fun a w hat => by
  obtain ⟨ρ, he, hs, hev, hsz, hdf⟩ := hat
  have hv := he gd _ hb
  simp only [Rep] at hv
  have hlt : gd < a.tmps.size := by rw [hsz]; simpa using hgd
  have hy : yielded ops a.tmps j = some b := by
    simp only [yielded, hj, Option.bind_some]
    rw [Array.getElem?_eq_getElem hlt]
    rw [Array.getD, dif_pos hlt] at hv
    have hv' : a.tmps[gd] = .bool b := hv
    rw [hv']
  simp only [wpListIn, Region.wanted, hg, hy]
  by_cases hbw : b = want
  · subst hbw
    simp only [beq_self_eq_true, if_true]
    exact (h1 rfl).wp hd (fun s H' a w k q => k a w q) ⟨ρ, he, hs, hev, hsz, hdf⟩
  · have : (some b == some want) = false := by simp [hbw]
    simp only [this, Bool.false_eq_true, if_false]
    exact ⟨fun _ _ => trivial, h2 hbw _ _ (at_put he hsz hdf hev hd (by simp only [Rep]) hs (Ev.refl _ _ _))⟩
end rules
end Go.Sx

set_option linter.unusedVariables false
set_option linter.unusedSimpArgs false
namespace Go.Sx
open Go Go.RowKit

mutual
def SV.ren (f : Nat → Nat) : SV → SV
  | .val x => .val x
  | .ptr o i g => .ptr (f o) i g
  | .slc o off len cap => .slc (f o) off len cap
  | .func g a b => .func g (rens f a) (rens f b)
  | .agg l => .agg (rens f l)
  | .tup l => .tup (rens f l)
  | .map o => .map (f o)
  | .chan o => .chan (f o)
  | .yield o => .yield (f o)
def rens (f : Nat → Nat) : List SV → List SV
  | [] => []
  | s :: l => s.ren f :: rens f l
end
def SO.ren (f : Nat → Nat) : SO → SO
  | .dead => .dead
  | .box cs => .box (rens f cs)
  | .gen cs q => .gen (rens f cs) q
  | .arr α own sz enc d xs => .arr α own sz enc d xs
theorem SO.ren_own (f : Nat → Nat) (x : SO) : (x.ren f).own = x.own := by cases x <;> rfl
theorem SO.ren_dead {f : Nat → Nat} {x : SO} (h : x.ren f = .dead) : x = .dead := by cases x <;> first | rfl | (simp [SO.ren] at h)

mutual
theorem Rep.pull {ρ ρ' : Rho} {f : Nat → Nat} (h : ∀ (j : Nat) (I : Info), ρ[f j]? = some (some I) → ρ'[j]? = some (some I)) : ∀ (s : SV) (v : Value), Rep ρ (s.ren f) v → Rep ρ' s v
  | .val x, v, r => by simpa only [SV.ren, Rep] using r
  | .ptr o i g, v, r => by
    simp only [SV.ren, Rep] at r ⊢
    obtain ⟨I, h1, h2⟩ := r
    exact ⟨I, h _ _ h1, h2⟩
  | .slc o off len cap, v, r => by
    simp only [SV.ren, Rep] at r ⊢
    rcases r with ⟨I, c, h1, h2⟩ | r
    · exact .inl ⟨I, c, h _ _ h1, h2⟩
    · exact .inr r
  | .func g a b, v, r => by
    simp only [SV.ren, Rep] at r ⊢
    obtain ⟨a', b', h1, h2, h3⟩ := r
    exact ⟨a', b', h1, Reps.pull h a _ h2, Reps.pull h b _ h3⟩
  | .agg l, v, r => by
    simp only [SV.ren, Rep] at r ⊢
    obtain ⟨a, h1, h2⟩ := r
    exact ⟨a, h1, Reps.pull h l _ h2⟩
  | .tup l, v, r => by
    simp only [SV.ren, Rep] at r ⊢
    obtain ⟨a, h1, h2⟩ := r
    exact ⟨a, h1, Reps.pull h l _ h2⟩
  | .map o, v, r => by
    simp only [SV.ren, Rep] at r ⊢
    obtain ⟨I, h1, h2⟩ := r
    exact ⟨I, h _ _ h1, h2⟩
  | .chan o, v, r => by
    simp only [SV.ren, Rep] at r ⊢
    obtain ⟨I, h1, h2⟩ := r
    exact ⟨I, h _ _ h1, h2⟩
  | .yield o, v, r => by
    simp only [SV.ren, Rep] at r ⊢
    obtain ⟨I, h1, h2⟩ := r
    exact ⟨I, h _ _ h1, h2⟩
theorem Reps.pull {ρ ρ' : Rho} {f : Nat → Nat} (h : ∀ (j : Nat) (I : Info), ρ[f j]? = some (some I) → ρ'[j]? = some (some I)) : ∀ (l : List SV) (vs : List Value), Reps ρ (rens f l) vs → Reps ρ' l vs
  | [], [], _ => by simp only [Reps]
  | s :: l, v :: vs, r => by
    simp only [rens, Reps] at r ⊢
    exact ⟨Rep.pull h s v r.1, Reps.pull h l vs r.2⟩
  | [], _ :: _, r => by simp only [rens, Reps] at r
  | _ :: _, [], r => by simp only [rens, Reps] at r
end
mutual
theorem Rep.push {ρ ρ' : Rho} {f : Nat → Nat} (h : ∀ (j : Nat) (I : Info), ρ[j]? = some (some I) → ρ'[f j]? = some (some I)) : ∀ (s : SV) (v : Value), Rep ρ s v → Rep ρ' (s.ren f) v
  | .val x, v, r => by simpa only [SV.ren, Rep] using r
  | .ptr o i g, v, r => by
    simp only [SV.ren, Rep] at r ⊢
    obtain ⟨I, h1, h2⟩ := r
    exact ⟨I, h _ _ h1, h2⟩
  | .slc o off len cap, v, r => by
    simp only [SV.ren, Rep] at r ⊢
    rcases r with ⟨I, c, h1, h2⟩ | r
    · exact .inl ⟨I, c, h _ _ h1, h2⟩
    · exact .inr r
  | .func g a b, v, r => by
    simp only [SV.ren, Rep] at r ⊢
    obtain ⟨a', b', h1, h2, h3⟩ := r
    exact ⟨a', b', h1, Reps.push h a _ h2, Reps.push h b _ h3⟩
  | .agg l, v, r => by
    simp only [SV.ren, Rep] at r ⊢
    obtain ⟨a, h1, h2⟩ := r
    exact ⟨a, h1, Reps.push h l _ h2⟩
  | .tup l, v, r => by
    simp only [SV.ren, Rep] at r ⊢
    obtain ⟨a, h1, h2⟩ := r
    exact ⟨a, h1, Reps.push h l _ h2⟩
  | .map o, v, r => by
    simp only [SV.ren, Rep] at r ⊢
    obtain ⟨I, h1, h2⟩ := r
    exact ⟨I, h _ _ h1, h2⟩
  | .chan o, v, r => by
    simp only [SV.ren, Rep] at r ⊢
    obtain ⟨I, h1, h2⟩ := r
    exact ⟨I, h _ _ h1, h2⟩
  | .yield o, v, r => by
    simp only [SV.ren, Rep] at r ⊢
    obtain ⟨I, h1, h2⟩ := r
    exact ⟨I, h _ _ h1, h2⟩
theorem Reps.push {ρ ρ' : Rho} {f : Nat → Nat} (h : ∀ (j : Nat) (I : Info), ρ[j]? = some (some I) → ρ'[f j]? = some (some I)) : ∀ (l : List SV) (vs : List Value), Reps ρ l vs → Reps ρ' (rens f l) vs
  | [], [], _ => by simp only [rens, Reps]
  | s :: l, v :: vs, r => by
    simp only [rens, Reps] at r ⊢
    exact ⟨Rep.push h s v r.1, Reps.push h l vs r.2⟩
  | [], _ :: _, r => by simp only [Reps] at r
  | _ :: _, [], r => by simp only [Reps] at r
end

/-- H0's objects are there, seen from H under the names σ: an own one is own, one that is only read may be own or not. -/
def Serves (x y : SO) : Prop := x = y ∨ ∃ (α : Type) (sz : Nat) (enc : α → List Value) (d : α) (xs : List α), y = .arr α true sz enc d xs ∧ x = .arr α false sz enc d xs
def nm : List Nat → Nat → Nat → Nat
  | [], n, j => n + j
  | o :: _, _, 0 => o
  | _ :: σ, n, j + 1 => nm σ n j
def ShH (f : Nat → Nat) (H : List SO) : List Nat → List SO → Prop
  | [], [] => True
  | o :: σ, x :: H0 => (x = .dead ∨ ∃ y, H[o]? = some y ∧ Serves (x.ren f) y) ∧ ShH f H σ H0
  | _, _ => False
def ownD : SO → Option Bool
  | .dead => none
  | x => some x.own
def owns (H : List SO) : List (Option Bool) := H.map ownD
def clash : Option Bool → Option Bool → Bool
  | some a, some b => a || b
  | _, _ => false
/-- An own object's name is nobody else's (but of those that are gone). -/
def sep : List Nat → List (Option Bool) → Bool
  | [], _ => true
  | o :: σ, b :: bs => (σ.zip bs).all (fun p => !(clash b p.2) || p.1 != o) && sep σ bs
  | _, [] => true
theorem ownD_of {x : SO} (h : x ≠ .dead) : ownD x = some x.own := by cases x <;> first | rfl | exact (h rfl).elim
theorem owns_get {H : List SO} {j : Nat} {x : SO} (h : H[j]? = some x) (hd : x ≠ .dead) : (owns H)[j]? = some (some x.own) := by
  simp only [owns, List.getElem?_map, h, Option.map_some, ownD_of hd]

theorem ShH.get {f : Nat → Nat} {H : List SO} : ∀ {σ : List Nat} {H0 : List SO}, ShH f H σ H0 → ∀ (j : Nat) (x : SO), H0[j]? = some x → x = .dead ∨ ∃ o y, σ[j]? = some o ∧ H[o]? = some y ∧ Serves (x.ren f) y
  | [], [], _, j, x, h => by simp at h
  | o :: σ, x :: H0, hs, j, x', h => by
    simp only [ShH] at hs
    cases j with
    | zero =>
      simp only [List.getElem?_cons_zero, Option.some.injEq] at h
      subst h
      rcases hs.1 with h1 | ⟨y, h1, h2⟩
      · exact .inl h1
      · exact .inr ⟨o, y, by simp, h1, h2⟩
    | succ j =>
      rcases hs.2.get j x' (by simpa using h) with h1 | ⟨o', y, h1, h2⟩
      · exact .inl h1
      · exact .inr ⟨o', y, by simpa using h1, h2⟩
  | [], _ :: _, h, _, _, _ => h.elim
  | _ :: _, [], h, _, _, _ => h.elim
theorem ShH.len {f : Nat → Nat} {H : List SO} : ∀ {σ : List Nat} {H0 : List SO}, ShH f H σ H0 → σ.length = H0.length
  | [], [], _ => rfl
  | o :: σ, x :: H0, hs => by simp only [ShH] at hs; simp [hs.2.len]
  | [], _ :: _, h => h.elim
  | _ :: _, [], h => h.elim
theorem sep_spec : ∀ (σ : List Nat) (bs : List (Option Bool)), sep σ bs = true → ∀ (j j' : Nat) (o : Nat) (b b' : Bool), σ[j]? = some o → σ[j']? = some o → bs[j]? = some (some b) → bs[j']? = some (some b') → (b = true ∨ b' = true) → j = j'
  | [], _, _, j, j', o, b, b', h1, _, _, _, _ => by simp at h1
  | o :: σ, [], _, j, j', o', b, b', _, _, h3, _, _ => by simp at h3
  | o :: σ, bd :: bs, h, j, j', o', b1, b2, h1, h2, h3, h4, h5 => by
    simp only [sep, Bool.and_eq_true, List.all_eq_true] at h
    obtain ⟨ha, hb⟩ := h
    have aux : ∀ (b : Bool) (k : Nat) (bk : Bool), bd = some b → σ[k]? = some o → bs[k]? = some (some bk) → (b = true ∨ bk = true) → False := by
      intro b k bk q0 q1 q2 q3
      have hm : (o, some bk) ∈ σ.zip bs := by
        have : (σ.zip bs)[k]? = some (o, some bk) := by rw [List.getElem?_zip_eq_some]; exact ⟨q1, q2⟩
        exact List.mem_of_getElem? this
      have := ha _ hm
      subst q0
      simp only [clash, bne_self_eq_false, Bool.or_false, Bool.not_eq_true', Bool.or_eq_false_iff] at this
      rcases q3 with q3 | q3
      · rw [q3] at this; cases this.1
      · rw [q3] at this; cases this.2
    cases j with
    | zero =>
      cases j' with
      | zero => rfl
      | succ k =>
        exfalso
        simp only [List.getElem?_cons_zero, List.getElem?_cons_succ, Option.some.injEq] at h1 h2 h3 h4
        subst h1
        exact aux b1 k b2 h3 h2 h4 h5
    | succ k =>
      cases j' with
      | zero =>
        exfalso
        simp only [List.getElem?_cons_zero, List.getElem?_cons_succ, Option.some.injEq] at h1 h2 h3 h4
        subst h2
        exact aux b2 k b1 h4 h1 h3 h5.symm
      | succ k' =>
        simp only [List.getElem?_cons_succ] at h1 h2 h3 h4
        rw [sep_spec σ bs hb k k' o' b1 b2 h1 h2 h3 h4 h5]

/-- The knowledge, seen under other names. -/
def pullR (ρ : Rho) (σ : List Nat) : Rho := σ.map fun o => (ρ[o]?).join
theorem pullR_get {ρ : Rho} {σ : List Nat} {j : Nat} {I : Info} : (pullR ρ σ)[j]? = some (some I) ↔ ∃ o, σ[j]? = some o ∧ ρ[o]? = some (some I) := by
  simp only [pullR, List.getElem?_map, Option.map_eq_some_iff]
  constructor
  · rintro ⟨o, h1, h2⟩
    refine ⟨o, h1, ?_⟩
    cases h : ρ[o]? with
    | none => rw [h] at h2; simp at h2
    | some x => rw [h] at h2; simp at h2; rw [h2]
  · rintro ⟨o, h1, h2⟩
    exact ⟨o, h1, by rw [h2]; rfl⟩
theorem nm_get : ∀ {σ : List Nat} {n j o : Nat}, σ[j]? = some o → nm σ n j = o
  | [], n, j, o, h => by simp at h
  | o' :: σ, n, 0, o, h => by simpa [nm] using h
  | o' :: σ, n, j + 1, o, h => by simp only [nm]; exact nm_get (by simpa using h)
theorem nm_new : ∀ {σ : List Nat} {n j : Nat}, σ.length ≤ j → nm σ n j = n + (j - σ.length)
  | [], n, j, h => by simp [nm]
  | o' :: σ, n, 0, h => by simp at h
  | o' :: σ, n, j + 1, h => by
    simp only [nm, List.length_cons]
    rw [nm_new (by simp at h; omega)]
    omega
theorem nm_pull {ρ : Rho} {σ : List Nat} {n : Nat} (hn : ρ.length ≤ n) (j : Nat) (I : Info) (h : ρ[nm σ n j]? = some (some I)) : (pullR ρ σ)[j]? = some (some I) := by
  rw [pullR_get]
  cases hj : σ[j]? with
  | none =>
    exfalso
    rw [nm_new (List.getElem?_eq_none_iff.1 hj), List.getElem?_eq_none (by omega)] at h
    cases h
  | some o => exact ⟨o, rfl, by rw [nm_get hj] at h; exact h⟩

theorem okO.pull {ρ ρ0 : Rho} {w : World} {f : Nat → Nat} (h : ∀ (j : Nat) (I : Info), ρ[f j]? = some (some I) → ρ0[j]? = some (some I)) {x y : SO} {io : Option Info} (hs : Serves (x.ren f) y) (ho : okO ρ w io y) : okO ρ0 w io x := by
  rcases hs with hs | ⟨α, sz, enc, d, xs, h1, h2⟩
  · subst hs
    cases x with
    | dead => trivial
    | box cs =>
      simp only [SO.ren, okO] at ho ⊢
      obtain ⟨I, vs, t, h1, h2, h3, h4, h5⟩ := ho
      exact ⟨I, vs, t, h1, h2, h3, h4, Reps.pull h _ _ h5⟩
    | gen cs q =>
      simp only [SO.ren, okO] at ho ⊢
      obtain ⟨I, vs, t, h1, h2, h3, h4, h5⟩ := ho
      exact ⟨I, vs, t, h1, h2, h3, h4, Reps.pull h _ _ h5⟩
    | arr α own sz enc d xs => simpa only [SO.ren, okO] using ho
  · subst h1
    cases x with
    | dead => trivial
    | box cs => simp [SO.ren] at h2
    | gen cs q => simp [SO.ren] at h2
    | arr α' own' sz' enc' d' xs' =>
      simp only [SO.ren, SO.arr.injEq] at h2
      obtain ⟨rfl, rfl, rfl, h2, h3, h4⟩ := h2
      cases h2; cases h3; cases h4
      simp only [okO] at ho ⊢
      obtain ⟨k1, k2, k3, k4⟩ := ho
      exact ⟨k1, k2, k3, fun I hI => ⟨(k4 I hI).1, (k4 I hI).2.1, (k4 I hI).2.2.1, fun hc => by cases hc⟩⟩

/-- A state under other names. -/
theorem St.pull {ρ : Rho} {H H0 : List SO} {w : World} (hs : St ρ H w) {σ : List Nat} (h : ShH (nm σ H.length) H σ H0) (hsep : sep σ (owns H0) = true) : St (pullR ρ σ) H0 w := by
  have hlen : ρ.length ≤ H.length := Nat.le_of_eq hs.len
  have back : ∀ (j : Nat) (x : SO) (I : Info), H0[j]? = some x → x ≠ .dead → (pullR ρ σ)[j]? = some (some I) → ∃ o y, σ[j]? = some o ∧ H[o]? = some y ∧ Serves (x.ren (nm σ H.length)) y ∧ ρ[o]? = some (some I) := by
    intro j x I h1 h2 h3
    rcases h.get j x h1 with h4 | ⟨o, y, h4, h5, h6⟩
    · exact (h2 h4).elim
    · obtain ⟨o', q1, q2⟩ := pullR_get.1 h3
      rw [h4] at q1
      simp only [Option.some.injEq] at q1
      subst q1
      exact ⟨o, y, h4, h5, h6, q2⟩
  have ownS : ∀ (x y : SO) (f : Nat → Nat), Serves (x.ren f) y → x.own = true → y.own = true := by
    intro x y f h1 h2
    rcases h1 with rfl | ⟨α, sz, enc, d, xs, h3, h4⟩
    · rw [SO.ren_own]; exact h2
    · rw [← SO.ren_own f, h4] at h2; cases h2
  have nd : ∀ x : SO, x.own = true → x ≠ .dead := fun x hx e => by subst e; cases hx
  refine ⟨by simp [pullR, h.len], fun j x io hx hio => ?_, fun j j' I I' x x' q1 q2 q3 q4 q5 q6 q7 => ?_, fun j j' I I' x x' q1 q2 q3 q4 q5 q6 q7 q8 => ?_⟩
  · rcases h.get j x hx with h1 | ⟨o, y, h1, h2, h3⟩
    · subst h1; trivial
    · have hlt : o < ρ.length := by rw [hs.len]; exact (List.getElem?_eq_some_iff.1 h2).1
      have hio' : io = (ρ[o]?).join := by
        simp only [pullR, List.getElem?_map, h1, Option.map_some, Option.some.injEq] at hio
        exact hio.symm
      have hk := hs.ok o y _ h2 (List.getElem?_eq_getElem hlt)
      have e1 : (ρ[o]?).join = ρ[o] := by rw [List.getElem?_eq_getElem hlt]; rfl
      rw [hio', e1]
      exact hk.pull (fun k I hI => nm_pull hlen k I hI) h3
  · obtain ⟨o, y, a1, a2, a3, a4⟩ := back j x I q3 (nd x q5) q1
    obtain ⟨o', y', b1, b2, b3, b4⟩ := back j' x' I' q4 (nd x' q6) q2
    have := hs.inj o o' I I' y y' a4 b4 a2 b2 (ownS _ _ _ a3 q5) (ownS _ _ _ b3 q6) q7
    subst this
    exact sep_spec σ (owns H0) hsep j j' o true true a1 b1 (by rw [owns_get q3 (nd x q5), q5]) (by rw [owns_get q4 (nd x' q6), q6]) (.inl rfl)
  · obtain ⟨o, y, a1, a2, a3, a4⟩ := back j x I q3 (nd x q5) q1
    obtain ⟨o', y', b1, b2, b3, b4⟩ := back j' x' I' q4 (fun e => q7 e) q2
    cases hy : y'.own with
    | true =>
      have := hs.inj o o' I I' y y' a4 b4 a2 b2 (ownS _ _ _ a3 q5) hy q8
      subst this
      have := sep_spec σ (owns H0) hsep j j' o true false a1 b1 (by rw [owns_get q3 (nd x q5), q5]) (by rw [owns_get q4 (fun e => q7 e), q6]) (.inl rfl)
      subst this
      rw [q3] at q4
      simp only [Option.some.injEq] at q4
      subst q4
      rw [q5] at q6; cases q6
    | false =>
      refine hs.ro o o' I I' y y' a4 b4 a2 b2 (ownS _ _ _ a3 q5) hy (fun e => ?_) q8
      subst e
      rcases b3 with b3 | ⟨α, sz, enc, d, xs, h3, h4⟩
      · exact q7 (SO.ren_dead b3)
      · cases h3

/-- Own blocks under other names are own blocks. -/
theorem OwnB.pull {ρ : Rho} {H H0 : List SO} {w : World} (hs : St ρ H w) {σ : List Nat} (h : ShH (nm σ H.length) H σ H0) {b : Nat} (hb : OwnB (pullR ρ σ) H0 b) : ∃ (j o : Nat) (I : Info) (y x : SO), H0[j]? = some x ∧ x.own = true ∧ σ[j]? = some o ∧ ρ[o]? = some (some I) ∧ H[o]? = some y ∧ y.own = true ∧ I.b = b := by
  obtain ⟨j, I, x, h1, h2, h3, h4⟩ := hb
  rcases h.get j x h2 with h5 | ⟨o, y, h5, h6, h7⟩
  · subst h5; cases h3
  · obtain ⟨o', q1, q2⟩ := pullR_get.1 h1
    rw [h5] at q1
    simp only [Option.some.injEq] at q1
    subst q1
    refine ⟨j, o, I, y, x, h2, h3, h5, q2, h6, ?_, h4⟩
    rcases h7 with rfl | ⟨α, sz, enc, d, xs, h8, h9⟩
    · rw [SO.ren_own]; exact h3
    · rw [← SO.ren_own (nm σ H.length), h9] at h3; cases h3

def ShE (f : Nat → Nat) (e : Env) : Env → Prop
  | [] => True
  | (t, v) :: e' => (∃ s, e.get t = some s ∧ s = v.ren f) ∧ ShE f e e'
theorem ShE.get {f : Nat → Nat} {e : Env} : ∀ {e' : Env}, ShE f e e' → ∀ t v, e'.get t = some v → e.get t = some (v.ren f)
  | [], _, t, v, h => by simp [Env.get] at h
  | (j, u) :: e', hs, t, v, h => by
    simp only [ShE] at hs
    simp only [Env.get_cons] at h
    split at h
    · rename_i htj
      subst htj
      simp only [Option.some.injEq] at h
      subst h
      obtain ⟨s, h1, h2⟩ := hs.1
      rw [h1, h2]
    · exact hs.2.get t v h

/-- The walk goes on in a state under other names; what it began with keeps its names. -/
theorem At.shift {C : Cx} {e e' : Env} {H H' : List SO} {a : Act} {w : World} (σ : List Nat) (hat : At C e H a w) (hH : ShH (nm σ H.length) H σ H') (hsep : sep σ (owns H') = true) (hm : List.range C.H.length <+: σ) (hlen : C.ρ.length = C.H.length) (hE : ShE (nm σ H.length) e e') : At C e' H' a w := by
  obtain ⟨ρ, he, hs, hev, h1, h2⟩ := hat
  refine ⟨pullR ρ σ, fun t v hv => ?_, hs.pull hH hsep, ⟨?_, hev.size, hev.os, hev.tape, hev.output, hev.block, fun b hb => ?_⟩, h1, h2.weak fun b hb => ?_⟩
  · exact Rep.pull (fun k I hI => nm_pull (Nat.le_of_eq hs.len) k I hI) _ _ (he t _ (hE.get t v hv))
  · obtain ⟨m, hm⟩ := hm
    obtain ⟨m', hm'⟩ := hev.pre
    refine ⟨pullR ρ m, ?_⟩
    rw [← hm]
    simp only [pullR, List.map_append]
    congr 1
    apply List.ext_getElem?
    intro i
    rw [List.getElem?_map]
    by_cases hi : i < C.ρ.length
    · rw [List.getElem?_range (by omega)]
      simp only [Option.map_some, ← hm', List.getElem?_append_left hi]
      rw [List.getElem?_eq_getElem hi]
      rfl
    · rw [List.getElem?_eq_none (by omega), List.getElem?_eq_none (by simp; omega)]
      rfl
  · obtain ⟨j, o, I, y, x, q1, q2, q3, q4, q5, q6, q7⟩ := hb.pull hs hH
    exact hev.own b ⟨o, I, y, q4, q5, q6, q7⟩
  · obtain ⟨j, o, I, y, x, q1, q2, q3, q4, q5, q6, q7⟩ := hb.pull hs hH
    exact ⟨o, I, y, q4, q5, q6, q7⟩

theorem w_shift {P : Program} {C : Cx} {c : Code} {e e' : Env} {H H' : List SO} {K : Exit → Env → List SO → Prop} (σ : List Nat) (hH : ShH (nm σ H.length) H σ H') (hsep : sep σ (owns H') = true) (hm : List.range C.H.length <+: σ) (hlen : C.ρ.length = C.H.length) (hE : ShE (nm σ H.length) e e')
    (h : W P C c e' H' K) : W P C c e H K := fun a w hat => h a w (hat.shift σ hH hsep hm hlen hE)
theorem shR {f : Nat → Nat} {H : List SO} {o : Nat} {x : SO} (h : H[o]? = some (x.ren f)) : x = .dead ∨ ∃ y, H[o]? = some y ∧ Serves (x.ren f) y := .inr ⟨_, h, .inl rfl⟩
end Go.Sx

set_option linter.unusedVariables false
set_option linter.unusedSimpArgs false
namespace Go.Sx
open Go Go.RowKit

/-- A function's contract: from any world that is as H says it comes back, in one that is as K says. -/
def Tri (P : Program) (g : FuncId) (args : List SV) (H : List SO) (K : SV → List SO → Prop) : Prop :=
  ∀ ρ w vs, Reps ρ args vs → St ρ H w → CallsIn (Fr none) 0 P g vs.toArray w (Ends ρ H w K)

theorem Left.mono {ρ : Rho} {H : List SO} {w : World} {K K' : SV → List SO → Prop} {v : Value} {w' : World} (h : Left ρ H w K v w') (hk : ∀ s H', K s H' → K' s H') : Left ρ H w K' v w' := by
  obtain ⟨ρ', s, H', a1, a2, a3, a4⟩ := h
  exact ⟨ρ', s, H', a1, a2, a3, hk _ _ a4⟩
theorem Ends.mono {ρ : Rho} {H : List SO} {w : World} {K K' : SV → List SO → Prop} {e : Ending} {w' : World} (h : Ends ρ H w K e w') (hk : ∀ s H', K s H' → K' s H') : Ends ρ H w K' e w' := by
  obtain ⟨v, h1, h2⟩ := h
  exact ⟨v, h1, h2.mono hk⟩
theorem Tri.mono {P : Program} {g : FuncId} {args : List SV} {H : List SO} {K K' : SV → List SO → Prop} (h : Tri P g args H K) (hk : ∀ s H', K s H' → K' s H') : Tri P g args H K' :=
  fun ρ w vs ha hs => (h ρ w vs ha hs).mono fun e w' he => he.mono hk

class FnOK (P : Program) (g : FuncId) : Prop where
  out : ∃ fn, P.funcs[g]? = some fn ∧ (fn.name == "runtime.NumGoroutine") = false ∧ fn.body.isNone = false

theorem run_callFunc {P : Program} {w : World} {g : FuncId} {args : Array Value} [h : FnOK P g] : (callFunc g args).run P w = .ok (.enter g args) w := by
  obtain ⟨fn, h1, h2, h3⟩ := h.out
  have h2' : ¬ fn.name = "runtime.NumGoroutine" := by simpa using h2
  have h3' : ¬ fn.body = none := by intro h; rw [h] at h3; cases h3
  simp [callFunc, h1, h2', h3']

section call
variable {P : Program} {r : Option Nat} {d : Option Tmp} {t : TypeId} {ps : String} {af : Array Edge} {gd : Option (Nat × Bool)} {e : Env} {H : List SO} {K : SV → List SO → Prop}
theorem do_call {f : Operand} {args : Array Operand} {ats : Array TypeId} {g : FuncId} {fs cs ag : List SV} [FnOK P g] (hf : ev e f = some (.func g fs cs)) (ha : evs e args.toList = some ag)
    (h : Tri P g (fs ++ ag ++ cs) H K) : OpDo P r ⟨d, .call ⟨.value f, args, ats⟩, t, ps, af, gd⟩ e H K := by
  refine ⟨by simp, fun ρ a w he hs => ?_⟩
  have h1 := he.ev hf
  simp only [Rep] at h1
  obtain ⟨va, vb, h2, h3, h4⟩ := h1
  refine ⟨.enter g (va ++ args.map a.eval ++ vb), w, ?_, rfl, ?_⟩
  · simp [execOp, resolve, h2, Deferred.ofValue, invoke, run_callFunc]
  · have := h ρ w _ ((h3.append (he.evs ha)).append h4) hs
    have e1 : (va.toList ++ List.map a.eval args.toList ++ vb.toList).toArray = va ++ args.map a.eval ++ vb := by
      apply Array.ext'
      simp
    rwa [e1] at this
end call

/-! ### From the walk of a body -/
def argEnv : Nat → List SV → Env
  | _, [] => []
  | i, s :: l => (i, s) :: argEnv (i + 1) l
theorem argEnv_get : ∀ (i : Nat) (l : List SV) (t : Nat) (v : SV), (argEnv i l).get t = some v → i ≤ t ∧ l[t - i]? = some v
  | i, [], t, v, h => by simp [argEnv, Env.get] at h
  | i, s :: l, t, v, h => by
    simp only [argEnv, Env.get_cons] at h
    split at h
    · rename_i ht; subst ht; simpa using h
    · obtain ⟨h1, h2⟩ := argEnv_get (i + 1) l t v h
      refine ⟨by omega, ?_⟩
      have : t - i = (t - (i + 1)) + 1 := by omega
      rw [this]; simpa using h2

/-- One result. -/
def ResDo (P : Program) (e : Env) (H : List SO) : ResultVar → SV → Prop
  | .tmp t, s => e.get t = some s
  | .cell a t, s => ∀ ρ (x : Act) w, EnvOK ρ e x → St ρ H w → ∃ v, (do loadVar t (← asAddr (x.tmps.getD a undef)) : Sem Value).run P w = .ok v w ∧ Rep ρ s v
theorem res_tmp {P : Program} {e : Env} {H : List SO} {t : Nat} {s : SV} (h : e.get t = some s) : ResDo P e H (.tmp t) s := h
theorem res_one {P : Program} {e : Env} {H : List SO} {a o f : Nat} {t : TypeId} {cs : List SV} {s : SV} [hT : TyOne P t] (hx : e.get a = some (.ptr o 0 f)) (ho : H[o]? = some (.box cs)) (hf : cs[f]? = some s) : ResDo P e H (.cell a t) s := fun ρ x w he hs => by
  obtain ⟨I, vs, tt, h1, h2, h3, h4, h5, h6⟩ := hs.boxptr ho (he a _ hx)
  obtain ⟨v, h7, h8⟩ := h4.get f s hf
  refine ⟨v, ?_, h8⟩
  have hc : w.cell? ⟨I.b, f, none⟩ = some v := by rw [cell_at h3]; simpa using h7
  simp [h2, asAddr, loadVar, run_isAgg_one hT.out.1, hc]
theorem res_agg {P : Program} {e : Env} {H : List SO} {a o f n : Nat} {t : TypeId} {cs : List SV} [hT : TyAgg P t n] (hx : e.get a = some (.ptr o 0 f)) (ho : H[o]? = some (.box cs)) (hf : f + n ≤ cs.length) : ResDo P e H (.cell a t) (.agg ((cs.drop f).take n)) := fun ρ x w he hs => by
  obtain ⟨I, vs, tt, h1, h2, h3, h4, h5, h6⟩ := hs.boxptr ho (he a _ hx)
  obtain ⟨i, q1, q2⟩ := hT.out.2
  have hl := h4.length
  refine ⟨.agg ((vs.toList.drop f).take n).toArray, ?_, ?_⟩
  · have hn : ((vs.toList.drop f).take n).length = n := by rw [List.length_take, List.length_drop]; omega
    have hr := run_loadCells_list (P := P) w ⟨I.b, f, none⟩ ((vs.toList.drop f).take n) (fun j v hj => by
      rw [add_plain, cell_at h3]
      rw [List.getElem?_take] at hj
      split at hj
      · rw [List.getElem?_drop] at hj; simpa using hj
      · cases hj)
    rw [hn] at hr
    simp only [h2, asAddr, loadVar, Sem.run_bind, Sem.run_pure, Result.andThen_ok, run_isAgg_agg hT.out.1, if_true, run_size q1, q2, hr]
  · simp only [Rep]; exact ⟨_, rfl, by simpa using (h4.drop f).take n⟩

inductive ResOK (P : Program) (e : Env) (H : List SO) : List ResultVar → List SV → Prop
  | nil : ResOK P e H [] []
  | cons {x : ResultVar} {s : SV} {l : List ResultVar} {ss : List SV} : ResDo P e H x s → ResOK P e H l ss → ResOK P e H (x :: l) (s :: ss)

def resVal (ss : List SV) : SV := match ss with | [s] => s | _ => .tup ss

def resF (tmps : Array Value) (y : ResultVar) : Sem Value := match y with
  | .tmp t => pure (tmps.getD t undef)
  | .cell a t => do loadVar t (← asAddr (tmps.getD a undef))
theorem results_eq (fn : Func) (tmps : Array Value) : results fn tmps = (do let vs ← fn.results.mapM (resF tmps); pure (if h : vs.size = 1 then vs[0] else .tuple vs)) := by
  unfold results
  rfl
theorem run_mapM_res {P : Program} {e : Env} {H : List SO} {ρ : Rho} {x : Act} {w : World} (he : EnvOK ρ e x) (hs : St ρ H w) : ∀ {l : List ResultVar} {ss : List SV}, ResOK P e H l ss →
    ∃ vs, (l.mapM (resF x.tmps)).run P w = .ok vs w ∧ Reps ρ ss vs
  | [], [], _ => ⟨[], by simp, by simp [Reps]⟩
  | y :: l, s :: ss, .cons h1 h2 => by
    obtain ⟨vs, h3, h4⟩ := run_mapM_res he hs h2
    have : ∃ v, (resF x.tmps y).run P w = .ok v w ∧ Rep ρ s v := by
      cases y with
      | tmp t => exact ⟨x.tmps.getD t undef, by simp only [resF, Sem.run_pure], he t s h1⟩
      | cell a t => exact h1 ρ x w he hs
    obtain ⟨v, h5, h6⟩ := this
    refine ⟨v :: vs, ?_, by simp only [Reps]; exact ⟨h6, h4⟩⟩
    simp only [List.mapM_cons, Sem.run_bind, h5, Result.andThen_ok, h3, Sem.run_pure]

theorem run_results {P : Program} {e : Env} {H : List SO} {ρ : Rho} {x : Act} {w : World} (he : EnvOK ρ e x) (hs : St ρ H w) {fn : Func} {ss : List SV} (h : ResOK P e H fn.results.toList ss) :
    ∃ v, (results fn x.tmps).run P w = .ok v w ∧ Rep ρ (resVal ss) v := by
  obtain ⟨vs, h1, h2⟩ := run_mapM_res he hs h
  have hl := h2.length
  refine ⟨if h : vs.length = 1 then vs[0] else .tuple vs.toArray, ?_, ?_⟩
  · simp only [results_eq, Array.mapM_eq_mapM_toList, Sem.run_bind, Sem.run_map, h1, Result.andThen_ok]
    simp only [Sem.run_pure]
    by_cases hv : vs.length = 1 <;> simp [hv]
  · by_cases h3 : vs.length = 1
    · rw [dif_pos h3]
      match ss, vs, h2, h3, hl with
      | [s], [v], h2, _, _ => simp only [Reps] at h2; simpa [resVal] using h2.1
      | [], [v], _, _, hl => simp at hl
      | _ :: _ :: _, [v], _, _, hl => simp at hl
    · rw [dif_neg h3]
      have : resVal ss = .tup ss := by
        match ss, hl with
        | [s], hl => simp at hl; omega
        | [], _ => rfl
        | _ :: _ :: _, _ => rfl
      rw [this]
      simp only [Rep]
      exact ⟨_, rfl, h2⟩

/-- A state under other names goes on from where the walk began. -/
theorem shift_core {ρ0 ρ : Rho} {H0 H H' : List SO} {w0 w : World} (hs : St ρ H w) (hev : Ev ρ0 H0 w0 ρ H w) (σ : List Nat) (hH : ShH (nm σ H.length) H σ H') (hsep : sep σ (owns H') = true) (hm : List.range H0.length <+: σ) (hlen : ρ0.length = H0.length) :
    St (pullR ρ σ) H' w ∧ Ev ρ0 H0 w0 (pullR ρ σ) H' w ∧ ∀ s v, Rep ρ (s.ren (nm σ H.length)) v → Rep (pullR ρ σ) s v := by
  let C : Cx := ⟨ρ0, H0, w0, 0, [], none⟩
  refine ⟨hs.pull hH hsep, ⟨?_, hev.size, hev.os, hev.tape, hev.output, hev.block, fun b hb => ?_⟩, fun s v h => Rep.pull (fun k I hI => nm_pull (Nat.le_of_eq hs.len) k I hI) _ _ h⟩
  · obtain ⟨m, hm⟩ := hm
    obtain ⟨m', hm'⟩ := hev.pre
    refine ⟨pullR ρ m, ?_⟩
    rw [← hm]
    simp only [pullR, List.map_append]
    congr 1
    apply List.ext_getElem?
    intro i
    rw [List.getElem?_map]
    by_cases hi : i < ρ0.length
    · rw [List.getElem?_range (by omega)]
      simp only [Option.map_some, ← hm', List.getElem?_append_left hi]
      rw [List.getElem?_eq_getElem hi]
      rfl
    · rw [List.getElem?_eq_none (by omega), List.getElem?_eq_none (by simp; omega)]
      rfl
  · obtain ⟨j, o, I, y, x, q1, q2, q3, q4, q5, q6, q7⟩ := hb.pull hs hH
    exact hev.own b ⟨o, I, y, q4, q5, q6, q7⟩

/-- A function's end: its results, seen under the names that its contract has. -/
def Ret (P : Program) (fn : Func) (n : Nat) (K : SV → List SO → Prop) (x : Exit) (e : Env) (H : List SO) : Prop :=
  (x = .ret ∨ x = .normal) ∧ ∃ ss, ResOK P e H fn.results.toList ss ∧ ∃ (σ : List Nat) (H' : List SO) (s : SV), resVal ss = s.ren (nm σ H.length) ∧ ShH (nm σ H.length) H σ H' ∧ sep σ (owns H') = true ∧ List.range n <+: σ ∧ K s H'

/-- The blocks of some marks are shut; all else lies as it lay. -/
inductive Marked : World → List Nat → World → Prop
  | nil {w : World} : Marked w [] w
  | cons {w : World} {r : Nat} {rs : List Nat} {w' : World} (h : w.heap[r]? = some (.deferred (some []))) (k : Marked (w.putObj r (.deferred none)) rs w') : Marked w (r :: rs) w'
theorem cell_mark {w : World} {r : Nat} {x y : Option (List Deferred)} (h : w.heap[r]? = some (.deferred x)) (a : Addr) : (w.putObj r (.deferred y)).cell? a = w.cell? a := by
  by_cases e : a.block = r
  · have h1 : (w.putObj r (.deferred y)).heap[a.block]? = some (.deferred y) := by rw [e]; exact World.putObj_heap_same (Array.getElem?_eq_some_iff.1 h).1
    have h2 : w.heap[a.block]? = some (.deferred x) := by rw [e]; exact h
    simp only [World.cell?, h1, h2]
  · have h1 : (w.putObj r (.deferred y)).heap[a.block]? = w.heap[a.block]? := World.putObj_heap_other e
    simp only [World.cell?, h1]
theorem St.mark {ρ : Rho} {H : List SO} {w : World} {r : Nat} {x y : Option (List Deferred)} (hs : St ρ H w) (h : w.heap[r]? = some (.deferred x)) : St ρ H (w.putObj r (.deferred y)) := by
  have keep : ∀ (b : Nat) (ob : Obj), w.heap[b]? = some ob → (∀ x, ob ≠ .deferred x) → (w.putObj r (.deferred y)).heap[b]? = some ob := fun b ob hb hn => by
    refine (World.putObj_heap_other ?_).trans hb
    intro e; subst e; rw [h] at hb; cases hb; exact hn _ rfl
  have hsz : (w.putObj r (.deferred y)).heap.size = w.heap.size := by simp
  refine ⟨hs.len, fun o obj io ho hio => ?_, hs.inj, hs.ro⟩
  have hk := hs.ok o obj io ho hio
  cases obj with
  | dead => trivial
  | box cs =>
    obtain ⟨I, vs, t, a1, a2, a3, a4, a5⟩ := hk
    exact ⟨I, vs, t, a1, a2, keep _ _ a3 (fun x e => by cases e), a4, a5⟩
  | gen cs q =>
    obtain ⟨I, vs, ob, a1, a2, a3, a4, a5⟩ := hk
    exact ⟨I, vs, ob, a1, a2, keep _ _ a3 a4.2, a4, a5⟩
  | arr α own sz enc d xs =>
    obtain ⟨a1, a2, a3, a4⟩ := hk
    refine ⟨a1, a2, a3, fun I hI => ?_⟩
    obtain ⟨b1, b2, b3, b4⟩ := a4 I hI
    refine ⟨b1, by rw [hsz]; exact b2, fun k f hk hf => ?_, fun ho => ?_⟩
    · rw [cell_mark h]; exact b3 k f hk hf
    · obtain ⟨vs, t, c1, c2⟩ := b4 ho
      exact ⟨vs, t, keep _ _ c1 (fun x e => by cases e), c2⟩
theorem St.marked {ρ : Rho} {H : List SO} {w w' : World} {rs : List Nat} (hs : St ρ H w) (h : Marked w rs w') : St ρ H w' := by
  induction h with
  | nil => exact hs
  | cons h k ih => exact ih (hs.mark h)
theorem Ev.mark {ρ ρ' : Rho} {H H' : List SO} {w w' : World} {r : Nat} (ob : Obj) (hev : Ev ρ H w ρ' H' w') (hr : w.heap.size ≤ r) : Ev ρ H w ρ' H' (w'.putObj r ob) where
  pre := hev.pre
  size := by simpa using hev.size
  os := hev.os
  tape := hev.tape
  output := hev.output
  block := fun b hb ho => (World.putObj_heap_other (by omega)).trans (hev.block b hb ho)
  own := hev.own
theorem Ev.marked {ρ ρ' : Rho} {H H' : List SO} {w w' w'' : World} {rs : List Nat} (hev : Ev ρ H w ρ' H' w') (h : Marked w' rs w'') (hr : ∀ r ∈ rs, w.heap.size ≤ r) : Ev ρ H w ρ' H' w'' := by
  induction h with
  | nil => exact hev
  | cons h k ih => exact ih (hev.mark _ (hr _ (by simp))) (fun r h => hr r (by simp [h]))
theorem leaves_marks {P : Program} {fn : Func} {tmps : Array Value} {R : Ending → World → Prop} : ∀ (rs : List Nat) (w : World), rs.Nodup → (∀ r ∈ rs, w.heap[r]? = some (.deferred (some []))) →
    (∀ w', Marked w rs w' → ∃ v, (results fn tmps).run P w' = .ok v w' ∧ R (.returned v) w') → LeavesInM (Fr none) 0 P fn tmps R (rs.map fun r => ({ target := .collected r, args := #[] } : Deferred)) .returning w
  | [], w, _, _, h => h w .nil
  | r :: rs, w, hn, hb, h => by
    rw [List.nodup_cons] at hn
    refine ⟨by simp, .inl ⟨r, _, rfl, run_takeDeferred (hb r (by simp)), ?_⟩⟩
    refine leaves_marks rs _ hn.2 (fun r' hr' => ?_) fun w' hm => h w' (.cons (hb r (by simp)) hm)
    have hne : r' ≠ r := fun e => hn.1 (e ▸ hr')
    exact (World.putObj_heap_other hne).trans (hb r' (by simp [hr']))

theorem tri_of_w {P : Program} {g : FuncId} {fn : Func} {c : Code} {args : List SV} {H : List SO} {K : SV → List SO → Prop} (hf : P.funcs[g]? = some fn) (hb : fn.body = some c) (hn : args.length ≤ fn.ntmps)
    (h : ∀ ρ w, ρ.length = H.length → W P ⟨ρ, H, w, fn.ntmps, [], none⟩ c (argEnv 0 args) H (Ret P fn H.length K)) : Tri P g args H K := by
  intro ρ w vs ha hs
  have hl := ha.length
  refine callsIn_of_wp_marks hf hb trivial ?_
  have hat : At ⟨ρ, H, w, fn.ntmps, [], none⟩ (argEnv 0 args) H { tmps := vs.toArray ++ Array.replicate (fn.ntmps - vs.toArray.size) undef, defers := [] } w := by
    refine ⟨ρ, fun t s ht => ?_, hs, Ev.refl _ _ _, by simp; omega, Mk.nil⟩
    obtain ⟨_, h2⟩ := argEnv_get 0 args t s ht
    obtain ⟨v, h3, h4⟩ := ha.get t s (by simpa using h2)
    have : (vs.toArray ++ Array.replicate (fn.ntmps - vs.toArray.size) undef).getD t undef = v := by
      rw [Array.getD_eq_getD_getElem?, Array.getElem?_append_left (by simp; exact (List.getElem?_eq_some_iff.1 h3).1)]
      simp [h3]
    rw [this]; exact h4
  refine wpIn_mono (h ρ w hs.len _ _ hat) ?_
  rintro x a' w' ⟨e', H2, ⟨hx, ss, h1, σ, H3, s, h2, h3, h4, h5, h6⟩, ρ', he', hs', hev', hsz', hd'⟩
  obtain ⟨rs, hd1, hd2, hd3⟩ := hd'
  have hfin : LeavesInM (Fr none) 0 P fn a'.tmps (Ends ρ H w K) a'.defers .returning w' := by
    rw [hd1, List.append_nil]
    refine leaves_marks rs w' hd2 (fun r hr => (hd3 r hr).2.1) fun w'' hm => ?_
    have hs2 : St ρ' H2 w'' := hs'.marked hm
    have hev2 : Ev ρ H w ρ' H2 w'' := hev'.marked hm fun r hr => (hd3 r hr).1
    obtain ⟨v, h7, h8⟩ := run_results he' hs2 h1
    obtain ⟨k1, k2, k3⟩ := shift_core hs2 hev2 σ h3 h4 h5 hs.len
    exact ⟨v, h7, v, rfl, pullR ρ' σ, s, H3, k3 _ _ (h2 ▸ h8), k1, k2, h6⟩
  rcases hx with rfl | rfl <;> exact hfin
end Go.Sx

set_option linter.unusedVariables false
set_option linter.unusedSimpArgs false
namespace Go.Sx
open Go Go.RowKit

/-- What a call leaves of the caller's heap. -/
def upd (f : Nat → Nat) : List SO → List Nat → List SO → List SO → List SO
  | H, o :: σ, x :: H0, y :: H1 => upd f (bif x.own then H.set o (y.ren f) else H) σ H0 H1
  | H, [], [], H1 => H ++ H1.map (SO.ren f)
  | H, _, _, _ => H
/-- What a call leaves is its own, or gone, where it was its own or is new. -/
def okNew : List SO → List SO → Prop
  | x :: H0, y :: H1 => (x.own = true → y.own = true ∨ y = .dead) ∧ okNew H0 H1
  | [], H1 => ∀ y ∈ H1, y.own = true ∨ y = .dead
  | _ :: _, [] => False

theorem okNew.len : ∀ {H0 H1 : List SO}, okNew H0 H1 → H0.length ≤ H1.length
  | [], _, _ => by simp
  | _ :: H0, _ :: H1, h => by simp only [okNew] at h; have := h.2.len; simp; omega
  | _ :: _, [], h => h.elim
theorem okNew.get : ∀ {H0 H1 : List SO}, okNew H0 H1 → ∀ (j : Nat) (y : SO), H1[j]? = some y → (∀ x, H0[j]? = some x → x.own = true) → y.own = true ∨ y = .dead
  | [], H1, h, j, y, hy, _ => h y (List.mem_of_getElem? hy)
  | x :: H0, y0 :: H1, h, 0, y, hy, hx => by
    simp only [okNew] at h
    simp at hy; subst hy
    exact h.1 (hx x (by simp))
  | x :: H0, y0 :: H1, h, j + 1, y, hy, hx => by
    simp only [okNew] at h
    exact h.2.get j y (by simpa using hy) (fun z hz => hx z (by simpa using hz))
  | _ :: _, [], h, _, _, _, _ => h.elim

theorem upd_get {f : Nat → Nat} : ∀ {σ : List Nat} {H0 H1 : List SO} (H : List SO), σ.length = H0.length → H0.length ≤ H1.length → ∀ (o : Nat) (z : SO), (upd f H σ H0 H1)[o]? = some z →
    (∃ (j : Nat) (x y : SO), σ[j]? = some o ∧ H0[j]? = some x ∧ x.own = true ∧ H1[j]? = some y ∧ z = y.ren f) ∨ (H[o]? = some z ∧ ∀ (j : Nat) (x : SO), σ[j]? = some o → H0[j]? = some x → x.own = false) ∨
    (∃ (k : Nat) (y : SO), o = H.length + k ∧ H1[H0.length + k]? = some y ∧ z = y.ren f)
  | [], [], H1, H, _, _, o, z, h => by
    simp only [upd] at h
    rcases Nat.lt_or_ge o H.length with ho | ho
    · rw [List.getElem?_append_left ho] at h
      exact .inr (.inl ⟨h, fun j x hj => by simp at hj⟩)
    · rw [List.getElem?_append_right ho, List.getElem?_map, Option.map_eq_some_iff] at h
      obtain ⟨y, h1, h2⟩ := h
      exact .inr (.inr ⟨o - H.length, y, by omega, by simpa using h1, h2.symm⟩)
  | o' :: σ, x' :: H0, y' :: H1, H, hl, hl2, o, z, h => by
    simp only [upd] at h
    have hlen : (bif x'.own then H.set o' (y'.ren f) else H).length = H.length := by cases x'.own <;> simp
    rcases upd_get _ (by simpa using hl) (by simpa using hl2) o z h with ⟨j, x, y, h1, h2, h3, h4, h5⟩ | ⟨h1, h2⟩ | ⟨k, y, h1, h2, h3⟩
    · exact .inl ⟨j + 1, x, y, by simpa using h1, by simpa using h2, h3, by simpa using h4, h5⟩
    · cases hx : x'.own with
      | true =>
        rw [hx] at h1
        simp only [cond_true] at h1
        rcases get_set h1 with ⟨q1, q2, q3⟩ | ⟨q1, q2⟩
        · exact .inl ⟨0, x', y', by simp [q1], by simp, hx, by simp, q2.symm⟩
        · refine .inr (.inl ⟨q2, fun j x hj hx2 => ?_⟩)
          cases j with
          | zero => simp at hj; omega
          | succ j => exact h2 j x (by simpa using hj) (by simpa using hx2)
      | false =>
        rw [hx] at h1
        simp only [cond_false] at h1
        refine .inr (.inl ⟨h1, fun j x hj hx2 => ?_⟩)
        cases j with
        | zero => simp at hx2; subst hx2; exact hx
        | succ j => exact h2 j x (by simpa using hj) (by simpa using hx2)
    · refine .inr (.inr ⟨k, y, by omega, ?_, h3⟩)
      have : (x' :: H0).length + k = (H0.length + k) + 1 := by simp; omega
      rw [this]; simpa using h2
  | [], _ :: _, _, _, hl, _, _, _, _ => by simp at hl
  | _ :: _, [], _, _, hl, _, _, _, _ => by simp at hl
  | _ :: _, _ :: _, [], _, _, hl, _, _, _ => by simp at hl
theorem upd_len {f : Nat → Nat} : ∀ {σ : List Nat} {H0 H1 : List SO} (H : List SO), σ.length = H0.length → H0.length ≤ H1.length → (upd f H σ H0 H1).length = H.length + (H1.length - H0.length)
  | [], [], H1, H, _, _ => by simp [upd]
  | o' :: σ, x' :: H0, y' :: H1, H, hl, hl2 => by
    simp only [upd]
    rw [upd_len _ (by simpa using hl) (by simpa using hl2)]
    have hlen : (bif x'.own then H.set o' (y'.ren f) else H).length = H.length := by cases x'.own <;> simp
    rw [hlen]; simp
  | [], _ :: _, _, _, hl, _ => by simp at hl
  | _ :: _, [], _, _, hl, _ => by simp at hl
  | _ :: _, _ :: _, [], _, _, hl => by simp at hl

theorem okO.push {ρ ρ' : Rho} {w : World} {f : Nat → Nat} (h : ∀ (j : Nat) (I : Info), ρ[j]? = some (some I) → ρ'[f j]? = some (some I)) {x : SO} {io : Option Info} (ho : okO ρ w io x) : okO ρ' w io (x.ren f) := by
  cases x with
  | dead => trivial
  | box cs =>
    simp only [SO.ren, okO] at ho ⊢
    obtain ⟨I, vs, t, h1, h2, h3, h4, h5⟩ := ho
    exact ⟨I, vs, t, h1, h2, h3, h4, Reps.push h _ _ h5⟩
  | gen cs q =>
    simp only [SO.ren, okO] at ho ⊢
    obtain ⟨I, vs, t, h1, h2, h3, h4, h5⟩ := ho
    exact ⟨I, vs, t, h1, h2, h3, h4, Reps.push h _ _ h5⟩
  | arr α own sz enc d xs => simpa only [SO.ren, okO] using ho

theorem frame {ρ : Rho} {H H0 : List SO} {w : World} (hs : St ρ H w) {σ : List Nat} (h : ShH (nm σ H.length) H σ H0) (hsep : sep σ (owns H0) = true) {ρ1 : Rho} {H1 : List SO} {w' : World}
    (hs1 : St ρ1 H1 w') (hev : Ev (pullR ρ σ) H0 w ρ1 H1 w') (hn : okNew H0 H1) :
    St (ρ ++ ρ1.drop H0.length) (upd (nm σ H.length) H σ H0 H1) w' ∧ Ev ρ H w (ρ ++ ρ1.drop H0.length) (upd (nm σ H.length) H σ H0 H1) w' ∧ ∀ s v, Rep ρ1 s v → Rep (ρ ++ ρ1.drop H0.length) (s.ren (nm σ H.length)) v := by
  have hσ : σ.length = H0.length := h.len
  have hlen := hs.len
  have hlen1 := hs1.len
  have hpre : ∀ j : Nat, j < H0.length → ρ1[j]? = (pullR ρ σ)[j]? := by
    intro j hj
    obtain ⟨m, hm⟩ := hev.pre
    rw [← hm, List.getElem?_append_left (by simp [pullR, hσ]; exact hj)]
  have hnew : ∀ (k : Nat) (I : Info), ρ1[H0.length + k]? = some (some I) ↔ (ρ ++ ρ1.drop H0.length)[H.length + k]? = some (some I) := by
    intro k I
    rw [List.getElem?_append_right (by omega), List.getElem?_drop]
    have : H0.length + (H.length + k - ρ.length) = H0.length + k := by omega
    rw [this]
  have hold : ∀ (o : Nat) (io : SO), H[o]? = some io → (ρ ++ ρ1.drop H0.length)[o]? = ρ[o]? := by
    intro o io ho
    rw [List.getElem?_append_left (by rw [hlen]; exact (List.getElem?_eq_some_iff.1 ho).1)]
  have hpush : ∀ (j : Nat) (I : Info), ρ1[j]? = some (some I) → (ρ ++ ρ1.drop H0.length)[nm σ H.length j]? = some (some I) := by
    intro j I hj
    rcases Nat.lt_or_ge j H0.length with hlt | hge
    · rw [hpre j hlt, pullR_get] at hj
      obtain ⟨o, h1, h2⟩ := hj
      rw [nm_get h1]
      exact Ext.append _ _ o I h2
    · rw [nm_new (by omega), hσ]
      have : j = H0.length + (j - H0.length) := by omega
      rw [this] at hj
      exact (hnew _ I).1 hj
  -- an own object of the call's, seen from the caller
  have hserve : ∀ (j : Nat) (x : SO) (o : Nat), σ[j]? = some o → H0[j]? = some x → x.own = true → ∃ y, H[o]? = some y ∧ y.own = true := by
    intro j x o h1 h2 h3
    rcases h.get j x h2 with h5 | ⟨o', y, h5, h6, h7⟩
    · subst h5; cases h3
    · rw [h1] at h5
      simp only [Option.some.injEq] at h5
      subst h5
      refine ⟨y, h6, ?_⟩
      rcases h7 with rfl | ⟨α, sz, enc, d, xs, h8, h9⟩
      · rw [SO.ren_own]; exact h3
      · rw [← SO.ren_own (nm σ H.length), h9] at h3; cases h3
  -- a block that was the call's own, by its name in the caller
  have hown0 : ∀ b, OwnB (pullR ρ σ) H0 b → ∃ (j : Nat) (x : SO) (o : Nat) (y : SO) (I : Info), σ[j]? = some o ∧ H0[j]? = some x ∧ x.own = true ∧ H[o]? = some y ∧ y.own = true ∧ ρ[o]? = some (some I) ∧ I.b = b := by
    intro b hb
    obtain ⟨j, o, I, y, x, q1, q2, q3, q4, q5, q6, q7⟩ := hb.pull hs h
    exact ⟨j, x, o, y, I, q3, q1, q2, q5, q6, q4, q7⟩
  have hltOld : ∀ (o : Nat) (z : SO) (I : Info), H[o]? = some z → ρ[o]? = some (some I) → z ≠ .dead → I.b < w.heap.size := fun o z I h1 h2 h3 => hs.fresh_free h2 h1 h3
  have nd : ∀ x : SO, x.own = true → x ≠ .dead := fun x hx e => by subst e; cases hx
  -- an untouched object of the caller's is in none of the call's own blocks
  have hfree : ∀ (o : Nat) (z : SO) (I : Info), H[o]? = some z → ρ[o]? = some (some I) → z ≠ .dead → (∀ (j : Nat) (x : SO), σ[j]? = some o → H0[j]? = some x → x.own = false) → ¬ OwnB (pullR ρ σ) H0 I.b := by
    intro o z I h1 h2 h3 h4 h5
    obtain ⟨j, x, o', y, I', q1, q2, q3, q4, q5, q6, q7⟩ := hown0 _ h5
    cases hz : z.own with
    | true =>
      have := hs.inj o' o I' I y z q6 h2 q4 h1 q5 hz q7
      subst this
      rw [h4 j x q1 q2] at q3; cases q3
    | false => exact hs.ro o' o I' I y z q6 h2 q4 h1 q5 hz (fun e => h3 e) q7
  refine ⟨⟨?_, ?_, ?_, ?_⟩, ⟨List.prefix_append _ _, hev.size, hev.os, hev.tape, hev.output, ?_, ?_⟩, fun s v hv => Rep.push hpush s v hv⟩
  · rw [upd_len H hσ hn.len]; simp; omega
  · intro o z io hz hio
    rcases upd_get H hσ hn.len o z hz with ⟨j, x, y, h1, h2, h3, h4, rfl⟩ | ⟨h1, h2⟩ | ⟨k, y, rfl, h2, rfl⟩
    · obtain ⟨y0, h5, h6⟩ := hserve j x o h1 h2 h3
      have hj : j < H0.length := (List.getElem?_eq_some_iff.1 h2).1
      have e1 : ρ1[j]? = some io := by
        rw [hpre j hj]
        rw [hold o y0 h5] at hio
        simp only [pullR, List.getElem?_map, h1, Option.map_some, hio, Option.join]
        rfl
      exact (hs1.ok j y io h4 e1).push hpush
    · rw [hold o z h1] at hio
      refine (hs.ok o z io h1 hio).keep (Ext.append _ _) hev.size (fun I hI hd hlt => ?_)
      subst hI
      exact hev.block _ hlt (hfree o z I h1 hio hd h2)
    · have e1 : ρ1[H0.length + k]? = some io := by
        rw [List.getElem?_append_right (by omega), List.getElem?_drop] at hio
        have : H0.length + (H.length + k - ρ.length) = H0.length + k := by omega
        rwa [this] at hio
      exact (hs1.ok _ y io h2 e1).push hpush
  · intro o o' I I' z z' q1 q2 q3 q4 q5 q6 q7
    rcases upd_get H hσ hn.len o z q3 with ⟨j, x, y, h1, h2, h3, h4, rfl⟩ | ⟨h1, h2⟩ | ⟨k, y, rfl, h2, rfl⟩ <;>
      rcases upd_get H hσ hn.len o' z' q4 with ⟨j', x', y', h1', h2', h3', h4', rfl⟩ | ⟨h1', h2'⟩ | ⟨k', y', rfl, h2', rfl⟩
    · obtain ⟨y0, a1, a2⟩ := hserve j x o h1 h2 h3
      obtain ⟨y0', a1', a2'⟩ := hserve j' x' o' h1' h2' h3'
      rw [hold o _ a1] at q1
      rw [hold o' _ a1'] at q2
      exact hs.inj o o' I I' y0 y0' q1 q2 a1 a1' a2 a2' q7
    · obtain ⟨y0, a1, a2⟩ := hserve j x o h1 h2 h3
      rw [hold o _ a1] at q1
      rw [hold o' _ h1'] at q2
      exact hs.inj o o' I I' y0 z' q1 q2 a1 h1' a2 q6 q7
    · exfalso
      obtain ⟨y0, a1, a2⟩ := hserve j x o h1 h2 h3
      rw [hold o _ a1] at q1
      have hj : j < H0.length := (List.getElem?_eq_some_iff.1 h2).1
      have e1 : ρ1[j]? = some (some I) := by rw [hpre j hj, pullR_get]; exact ⟨o, h1, q1⟩
      rw [SO.ren_own] at q5 q6
      have := hs1.inj j _ I I' y y' e1 ((hnew k' I').2 q2) h4 h2' q5 q6 q7
      omega
    · obtain ⟨y0', a1', a2'⟩ := hserve j' x' o' h1' h2' h3'
      rw [hold o _ h1] at q1
      rw [hold o' _ a1'] at q2
      exact hs.inj o o' I I' z y0' q1 q2 h1 a1' q5 a2' q7
    · rw [hold o _ h1] at q1
      rw [hold o' _ h1'] at q2
      exact hs.inj o o' I I' z z' q1 q2 h1 h1' q5 q6 q7
    · exfalso
      rw [hold o _ h1] at q1
      rw [SO.ren_own] at q6
      have hb : OwnB ρ1 H1 I'.b := ⟨_, I', y', (hnew k' I').2 q2, h2', q6, rfl⟩
      rcases hev.own _ hb with hb | hb
      · exact hfree o z I h1 q1 (nd z q5) h2 (q7 ▸ hb)
      · have := hltOld o z I h1 q1 (nd z q5)
        omega
    · exfalso
      obtain ⟨y0', a1', a2'⟩ := hserve j' x' o' h1' h2' h3'
      rw [hold o' _ a1'] at q2
      have hj : j' < H0.length := (List.getElem?_eq_some_iff.1 h2').1
      have e1 : ρ1[j']? = some (some I') := by rw [hpre j' hj, pullR_get]; exact ⟨o', h1', q2⟩
      rw [SO.ren_own] at q5 q6
      have := hs1.inj _ j' I I' y y' ((hnew k I).2 q1) e1 h2 h4' q5 q6 q7
      omega
    · exfalso
      rw [hold o' _ h1'] at q2
      rw [SO.ren_own] at q5
      have hb : OwnB ρ1 H1 I.b := ⟨_, I, y, (hnew k I).2 q1, h2, q5, rfl⟩
      rcases hev.own _ hb with hb | hb
      · exact hfree o' z' I' h1' q2 (nd z' q6) h2' (q7 ▸ hb)
      · have := hltOld o' z' I' h1' q2 (nd z' q6)
        omega
    · rw [SO.ren_own] at q5 q6
      have := hs1.inj _ _ I I' y y' ((hnew k I).2 q1) ((hnew k' I').2 q2) h2 h2' q5 q6 q7
      omega
  · intro o o' I I' z z' q1 q2 q3 q4 q5 q6 q7 q8
    have hz' : H[o']? = some z' := by
      rcases upd_get H hσ hn.len o' z' q4 with ⟨j', x', y', h1', h2', h3', h4', rfl⟩ | ⟨h1', h2'⟩ | ⟨k', y', rfl, h2', rfl⟩
      · exfalso
        rw [SO.ren_own] at q6
        rcases hn.get j' y' h4' (fun x hx => by rw [h2'] at hx; simp only [Option.some.injEq] at hx; subst hx; exact h3') with hc | hc
        · rw [q6] at hc; cases hc
        · subst hc; exact q7 rfl
      · exact h1'
      · exfalso
        rw [SO.ren_own] at q6
        rcases hn.get _ y' h2' (fun x hx => by rw [List.getElem?_eq_none (by omega)] at hx; cases hx) with hc | hc
        · rw [q6] at hc; cases hc
        · subst hc; exact q7 rfl
    rw [hold o' _ hz'] at q2
    rcases upd_get H hσ hn.len o z q3 with ⟨j, x, y, h1, h2, h3, h4, rfl⟩ | ⟨h1, h2⟩ | ⟨k, y, rfl, h2, rfl⟩
    · obtain ⟨y0, a1, a2⟩ := hserve j x o h1 h2 h3
      rw [hold o _ a1] at q1
      exact hs.ro o o' I I' y0 z' q1 q2 a1 hz' a2 q6 q7 q8
    · rw [hold o _ h1] at q1
      exact hs.ro o o' I I' z z' q1 q2 h1 hz' q5 q6 q7 q8
    · rw [SO.ren_own] at q5
      have hb : OwnB ρ1 H1 I.b := ⟨_, I, y, (hnew k I).2 q1, h2, q5, rfl⟩
      rcases hev.own _ hb with hb | hb
      · obtain ⟨j, x, o2, y2, I2, r1, r2, r3, r4, r5, r6, r7⟩ := hown0 _ hb
        exact hs.ro o2 o' I2 I' y2 z' r6 q2 r4 hz' r5 q6 q7 (r7.trans q8)
      · have := hltOld o' z' I' hz' q2 (fun e => q7 e)
        omega
  · intro b hb hno
    exact hev.block b hb (fun hc => by
      obtain ⟨j, x, o, y, I, r1, r2, r3, r4, r5, r6, r7⟩ := hown0 _ hc
      exact hno ⟨o, I, y, r6, r4, r5, r7⟩)
  · rintro b ⟨o, I, z, h1, h2, h3, rfl⟩
    rcases upd_get H hσ hn.len o z h2 with ⟨j, x, y, q1, q2, q3, q4, rfl⟩ | ⟨q1, q2⟩ | ⟨k, y, rfl, q2, rfl⟩
    · obtain ⟨y0, a1, a2⟩ := hserve j x o q1 q2 q3
      rw [hold o _ a1] at h1
      exact .inl ⟨o, I, y0, h1, a1, a2, rfl⟩
    · rw [hold o _ q1] at h1
      exact .inl ⟨o, I, z, h1, q1, h3, rfl⟩
    · rw [SO.ren_own] at h3
      have hb : OwnB ρ1 H1 I.b := ⟨_, I, y, (hnew k I).2 h1, q2, h3, rfl⟩
      rcases hev.own _ hb with hb | hb
      · obtain ⟨j, x, o2, y2, I2, r1, r2, r3, r4, r5, r6, r7⟩ := hown0 _ hb
        exact .inl ⟨o2, I2, y2, r6, r4, r5, r7⟩
      · exact .inr hb

/-- A contract, used by a caller that has more, and other names. -/
theorem Tri.frame {P : Program} {g : FuncId} {args args0 : List SV} {H H0 : List SO} {K0 K : SV → List SO → Prop} (h : Tri P g args0 H0 K0) (σ : List Nat) (hH : ShH (nm σ H.length) H σ H0) (hsep : sep σ (owns H0) = true) (ha : args = rens (nm σ H.length) args0)
    (hk : ∀ s H1, K0 s H1 → okNew H0 H1 ∧ K (s.ren (nm σ H.length)) (upd (nm σ H.length) H σ H0 H1)) : Tri P g args H K := by
  intro ρ w vs hr hs
  subst ha
  refine (h (pullR ρ σ) w vs (Reps.pull (fun k I hI => nm_pull (Nat.le_of_eq hs.len) k I hI) _ _ hr) (hs.pull hH hsep)).mono ?_
  rintro e w' ⟨v, rfl, ρ1, s, H1, a1, a2, a3, a4⟩
  obtain ⟨b1, b2⟩ := hk s H1 a4
  obtain ⟨c1, c2, c3⟩ := Sx.frame hs hH hsep a2 a3 b1
  exact ⟨v, rfl, _, _, _, c3 s v a1, c1, c2, b2⟩
end Go.Sx

set_option linter.unusedVariables false
set_option linter.unusedSimpArgs false
namespace Go.Sx
open Go Go.RowKit

/-- Of an operation of a region: its number, its destination, what it yields, its new objects. -/
structure Ent where
  j : Nat
  d : Option Tmp
  V : SV
  N : List SO

def envR (e0 : Env) (p : Nat → Bool) : List Ent → Env
  | [] => e0
  | ⟨j, d, V, _⟩ :: acc => bif p j then putO (envR e0 p acc) d V else envR e0 p acc
theorem envR_cons {e0 : Env} {p : Nat → Bool} (x : Ent) (acc : List Ent) : envR e0 p (x :: acc) = bif p x.j then putO (envR e0 p acc) x.d x.V else envR e0 p acc := by cases x; rfl
def heapR (H0 : List SO) (p : Nat → Bool) : List Ent → List SO
  | [] => H0
  | ⟨_, _, _, []⟩ :: acc => heapR H0 p acc
  | ⟨j, _, _, y :: l⟩ :: acc => heapR H0 p acc ++ (bif p j then y :: l else (y :: l).map fun _ => .dead)
def hl (H0 : List SO) : List Ent → Nat
  | [] => H0.length
  | ⟨_, _, _, []⟩ :: acc => hl H0 acc
  | ⟨_, _, _, y :: l⟩ :: acc => hl H0 acc + (y :: l).length
theorem hl_cons {H0 : List SO} (x : Ent) (acc : List Ent) : hl H0 (x :: acc) = hl H0 acc + x.N.length := by
  obtain ⟨j, d, V, N⟩ := x
  cases N <;> rfl
/-- Is the name one of an operation that is not done? -/
def masked (H0 : List SO) (p : Nat → Bool) : List Ent → Nat → Bool
  | [], _ => false
  | x :: acc, o => if o < hl H0 acc then masked H0 p acc o else !p x.j

theorem heapR_cons {H0 : List SO} {p : Nat → Bool} (x : Ent) (acc : List Ent) : heapR H0 p (x :: acc) = heapR H0 p acc ++ (bif p x.j then x.N else x.N.map fun _ => .dead) := by
  obtain ⟨j, d, V, N⟩ := x
  cases N with
  | nil => cases hp : p j <;> simp [heapR, hp]
  | cons y l => rfl
theorem heapR_len {H0 : List SO} {p : Nat → Bool} : ∀ (acc : List Ent), (heapR H0 p acc).length = hl H0 acc
  | [] => rfl
  | x :: acc => by
    rw [heapR_cons, List.length_append, heapR_len acc]
    cases p x.j <;> simp [hl_cons]
theorem hl_le {H0 : List SO} : ∀ (newer older : List Ent), hl H0 older ≤ hl H0 (newer ++ older)
  | [], older => Nat.le_refl _
  | x :: newer, older => by
    simp only [List.cons_append, hl_cons]
    exact Nat.le_trans (hl_le newer older) (Nat.le_add_right _ _)
theorem hl_base {H0 : List SO} (acc : List Ent) : H0.length ≤ hl H0 acc := by
  have := hl_le (H0 := H0) acc []
  simpa [hl] using this
theorem heapR_get {H0 : List SO} {p : Nat → Bool} : ∀ (newer older : List Ent) (o : Nat), o < hl H0 older → (heapR H0 p (newer ++ older))[o]? = (heapR H0 p older)[o]?
  | [], older, o, _ => rfl
  | x :: newer, older, o, h => by
    rw [List.cons_append, heapR_cons, List.getElem?_append_left (by rw [heapR_len]; exact Nat.lt_of_lt_of_le h (hl_le newer older))]
    exact heapR_get newer older o h
theorem masked_get {H0 : List SO} {p : Nat → Bool} : ∀ (newer older : List Ent) (o : Nat), o < hl H0 older → masked H0 p (newer ++ older) o = masked H0 p older o
  | [], older, o, _ => rfl
  | x :: newer, older, o, h => by
    simp only [List.cons_append, masked]
    rw [if_pos (Nat.lt_of_lt_of_le h (hl_le newer older))]
    exact masked_get newer older o h

/-! ### Names in bounds -/
mutual
def SV.inb (n : Nat) : SV → Bool
  | .val _ => true
  | .ptr o _ _ => Nat.blt o n
  | .slc o _ _ _ => Nat.blt o n
  | .func _ a b => inbs n a && inbs n b
  | .agg l => inbs n l
  | .tup l => inbs n l
  | .map o => Nat.blt o n
  | .chan o => Nat.blt o n
  | .yield o => Nat.blt o n
def inbs (n : Nat) : List SV → Bool
  | [] => true
  | s :: l => s.inb n && inbs n l
end
def SO.inb (n : Nat) : SO → Bool
  | .dead => true
  | .box cs => inbs n cs
  | .gen cs _ => inbs n cs
  | .arr _ _ _ _ _ _ => true
def inbH (n : Nat) : List SO → Bool
  | [] => true
  | x :: l => x.inb n && inbH n l
def inbE (n : Nat) : Env → Bool
  | [] => true
  | (_, s) :: l => s.inb n && inbE n l
theorem blt_lt {a b : Nat} (h : Nat.blt a b = true) : a < b := by simpa using h

theorem take_get {ρ : Rho} {n o : Nat} {I : Info} (h : ρ[o]? = some (some I)) (ho : o < n) : (ρ.take n)[o]? = some (some I) := by rw [List.getElem?_take, if_pos ho]; exact h
mutual
theorem Rep.take {ρ : Rho} {n : Nat} : ∀ (s : SV) (v : Value), s.inb n = true → Rep ρ s v → Rep (ρ.take n) s v
  | .val x, v, _, r => by simpa only [Rep] using r
  | .ptr o i f, v, hb, r => by
    simp only [Rep, SV.inb] at r hb ⊢
    obtain ⟨I, h1, h2⟩ := r
    exact ⟨I, take_get h1 (blt_lt hb), h2⟩
  | .slc o off len cap, v, hb, r => by
    simp only [Rep, SV.inb] at r hb ⊢
    rcases r with ⟨I, c, h1, h2⟩ | r
    · exact .inl ⟨I, c, take_get h1 (blt_lt hb), h2⟩
    · exact .inr r
  | .func f fs cs, v, hb, r => by
    simp only [Rep, SV.inb, Bool.and_eq_true] at r hb ⊢
    obtain ⟨a, b, h1, h2, h3⟩ := r
    exact ⟨a, b, h1, Reps.takeB fs _ hb.1 h2, Reps.takeB cs _ hb.2 h3⟩
  | .agg l, v, hb, r => by
    simp only [Rep, SV.inb] at r hb ⊢
    obtain ⟨a, h1, h2⟩ := r
    exact ⟨a, h1, Reps.takeB l _ hb h2⟩
  | .tup l, v, hb, r => by
    simp only [Rep, SV.inb] at r hb ⊢
    obtain ⟨a, h1, h2⟩ := r
    exact ⟨a, h1, Reps.takeB l _ hb h2⟩
  | .map o, v, hb, r => by
    simp only [Rep, SV.inb] at r hb ⊢
    obtain ⟨I, h1, h2⟩ := r
    exact ⟨I, take_get h1 (blt_lt hb), h2⟩
  | .chan o, v, hb, r => by
    simp only [Rep, SV.inb] at r hb ⊢
    obtain ⟨I, h1, h2⟩ := r
    exact ⟨I, take_get h1 (blt_lt hb), h2⟩
  | .yield o, v, hb, r => by
    simp only [Rep, SV.inb] at r hb ⊢
    obtain ⟨I, h1, h2⟩ := r
    exact ⟨I, take_get h1 (blt_lt hb), h2⟩
theorem Reps.takeB {ρ : Rho} {n : Nat} : ∀ (l : List SV) (vs : List Value), inbs n l = true → Reps ρ l vs → Reps (ρ.take n) l vs
  | [], [], _, _ => by simp only [Reps]
  | s :: l, v :: vs, hb, r => by
    simp only [Reps, inbs, Bool.and_eq_true] at r hb ⊢
    exact ⟨Rep.take s v hb.1 r.1, Reps.takeB l vs hb.2 r.2⟩
  | [], _ :: _, _, r => by simp only [Reps] at r
  | _ :: _, [], _, r => by simp only [Reps] at r
end
mutual
theorem SV.inb_mono {n m : Nat} (h : n ≤ m) : ∀ (s : SV), s.inb n = true → s.inb m = true
  | .val _, _ => rfl
  | .ptr o _ _, hb => by simp only [SV.inb] at hb ⊢; have := blt_lt hb; simp; omega
  | .slc o _ _ _, hb => by simp only [SV.inb] at hb ⊢; have := blt_lt hb; simp; omega
  | .func _ a b, hb => by
    simp only [SV.inb, Bool.and_eq_true] at hb ⊢
    exact ⟨inbs_mono h a hb.1, inbs_mono h b hb.2⟩
  | .agg l, hb => by simp only [SV.inb] at hb ⊢; exact inbs_mono h l hb
  | .tup l, hb => by simp only [SV.inb] at hb ⊢; exact inbs_mono h l hb
  | .map o, hb => by simp only [SV.inb] at hb ⊢; have := blt_lt hb; simp; omega
  | .chan o, hb => by simp only [SV.inb] at hb ⊢; have := blt_lt hb; simp; omega
  | .yield o, hb => by simp only [SV.inb] at hb ⊢; have := blt_lt hb; simp; omega
theorem inbs_mono {n m : Nat} (h : n ≤ m) : ∀ (l : List SV), inbs n l = true → inbs m l = true
  | [], _ => rfl
  | s :: l, hb => by
    simp only [inbs, Bool.and_eq_true] at hb ⊢
    exact ⟨SV.inb_mono h s hb.1, inbs_mono h l hb.2⟩
end
theorem SO.inb_mono {n m : Nat} (h : n ≤ m) : ∀ (x : SO), x.inb n = true → x.inb m = true
  | .dead, _ => rfl
  | .box cs, hb => inbs_mono h cs hb
  | .gen cs _, hb => inbs_mono h cs hb
  | .arr _ _ _ _ _ _, _ => rfl
theorem inbH_get {n : Nat} : ∀ {H : List SO}, inbH n H = true → ∀ (o : Nat) (x : SO), H[o]? = some x → x.inb n = true
  | [], _, o, x, h => by simp at h
  | y :: H, hb, 0, x, h => by simp only [inbH, Bool.and_eq_true] at hb; simp at h; subst h; exact hb.1
  | y :: H, hb, o + 1, x, h => by simp only [inbH, Bool.and_eq_true] at hb; exact inbH_get hb.2 o x (by simpa using h)
theorem inbE_get {n : Nat} : ∀ {e : Env}, inbE n e = true → ∀ (t : Nat) (v : SV), e.get t = some v → v.inb n = true
  | [], _, t, v, h => by simp [Env.get] at h
  | (j, s) :: e, hb, t, v, h => by
    simp only [inbE, Bool.and_eq_true] at hb
    rw [Env.get_cons] at h
    split at h
    · simp only [Option.some.injEq] at h; subst h; exact hb.1
    · exact inbE_get hb.2 t v h
theorem okO.take {ρ : Rho} {w : World} {n : Nat} {io : Option Info} {x : SO} (hb : x.inb n = true) (h : okO ρ w io x) : okO (ρ.take n) w io x := by
  cases x with
  | dead => trivial
  | box cs =>
    simp only [okO] at h ⊢
    obtain ⟨I, vs, t, h1, h2, h3, h4, h5⟩ := h
    exact ⟨I, vs, t, h1, h2, h3, h4, Reps.takeB _ _ hb h5⟩
  | gen cs q =>
    simp only [okO] at h ⊢
    obtain ⟨I, vs, t, h1, h2, h3, h4, h5⟩ := h
    exact ⟨I, vs, t, h1, h2, h3, h4, Reps.takeB _ _ hb h5⟩
  | arr α own sz enc d xs => simpa only [okO] using h

/-! ### What each operation of the region comes to -/
def Wants (ops : Array Oper) (nt : Nat) (o : Oper) (e : Env) (b : Bool) : Prop :=
  (o.guard = none ∧ b = true) ∨ (∃ j want gd x, o.guard = some (j, want) ∧ (ops[j]?).bind (·.dst) = some gd ∧ e.get gd = some (.val (.bool x)) ∧ Nat.blt gd nt = true ∧ b = (x == want)) ∨
  (∃ j want gd, o.guard = some (j, want) ∧ (ops[j]?).bind (·.dst) = some gd ∧ e.get gd = some (.val undef) ∧ Nat.blt gd nt = true ∧ b = false)
def bitOn (m j : Nat) : Bool := Nat.beq (Nat.land (Nat.shiftRight m j) 1) 1
def allOwn : List SO → Bool
  | [] => true
  | .dead :: l => allOwn l
  | x :: l => x.own && allOwn l
def freshD (e : Env) : Option Tmp → Prop
  | some t => e.get t = none
  | none => True
abbrev always : Nat → Bool := fun _ => true

structure Step (P : Program) (C : Cx) (ops : Array Oper) (e0 : Env) (H0 : List SO) (m : Nat) (o : Oper) (acc : List Ent) (V : SV) (N : List SO) : Prop where
  dst : dstOK o.dst C.nt = true
  fresh : freshD (envR e0 always acc) o.dst
  inbV : V.inb (hl H0 acc + N.length) = true
  inbN : inbH (hl H0 acc + N.length) N = true
  own : allOwn N = true
  does : (Wants ops C.nt o (envR e0 (bitOn m) acc) true ∧ OpDo P C.r o (envR e0 (bitOn m) acc) (heapR H0 (bitOn m) acc) fun s H' => s = V ∧ H' = heapR H0 (bitOn m) acc ++ N) ∨
    (Wants ops C.nt o (envR e0 (bitOn m) acc) false ∧ V = .val undef ∧ N = [])

def RAf (P : Program) (C : Cx) (ops : Array Oper) (e0 : Env) (H0 : List SO) (Fin : List Oper → List Ent → Prop) : List Nat → List Oper → List Ent → Prop
  | [], l, acc => Fin l acc
  | m :: ms, o :: l, acc => ∃ V N, Step P C ops e0 H0 m o acc V N ∧ RAf P C ops e0 H0 Fin ms l (⟨acc.length, o.dst, V, N⟩ :: acc)
  | _ :: _, [], _ => False
abbrev RA (P : Program) (C : Cx) (ops : Array Oper) (e0 : Env) (H0 : List SO) (K : Exit → Env → List SO → Prop) : List Nat → List Oper → List Ent → Prop :=
  RAf P C ops e0 H0 fun l acc => RW P C ops l (envR e0 always acc) (heapR H0 always acc) K
/-- The operations that are left, when those listed are done. -/
def RX (P : Program) (C : Cx) (ops : Array Oper) (K : Exit → Env → List SO → Prop) (fuel : Nat) (listed : Array Bool) (e : Env) (H : List SO) : Prop :=
  ∀ a w, At C e H a w → wpAnyIn (Fr C.r) 0 P .any ops (PQ C K) fuel listed a w
/-- All of the first m but those in Z. -/
def offL (n m : Nat) (Z : List Nat) : Array Bool := ((List.range n).map fun i => Nat.blt i m && !Z.elem i).toArray
/-- What must be shown where some of the operations Z may come late. -/
def LateX (P : Program) (C : Cx) (ops : Array Oper) (e0 : Env) (H0 : List SO) (K : Exit → Env → List SO → Prop) (Z : List Nat) (l : List Oper) (acc : List Ent) : Prop :=
  RX P C ops K (Z.length + l.length) (offL ops.size acc.length Z) (envR e0 (fun j => !Z.elem j) acc) (heapR H0 (fun j => !Z.elem j) acc)

def maskUp (ms : List Nat) (o : Oper) : Nat := o.after.toList.foldl (fun s e => bif Region.binds .any e then s ||| 2 ^ e.on ||| ms.getD e.on 0 else s) 0
def okMask (ms : List Nat) : Nat → List Oper → Bool
  | _, [] => true
  | i, o :: l => Nat.beq (maskUp ms o ||| ms.getD i 0) (maskUp ms o) && o.after.toList.all (fun e => !Region.binds .any e || Nat.blt e.on i) && okMask ms (i + 1) l
/-- All of the last operations wait for all ahead of them. -/
def okTail (ms : List Nat) (k : Nat) : Nat → Bool
  | 0 => true
  | n + 1 => Nat.beq (ms.getD (k + n) 0) (2 ^ (k + n) - 1) && okTail ms k n
/-- The same, but for the operations in zm. -/
def okTailZ (zm : Nat) (ms : List Nat) (k : Nat) : Nat → Bool
  | 0 => true
  | n + 1 => Nat.beq (ms.getD (k + n) 0 ||| zm) (2 ^ (k + n) - 1) && okTailZ zm ms k n

theorem bitOn_test (m j : Nat) : bitOn m j = m.testBit j := by
  have h : Nat.land (Nat.shiftRight m j) 1 = (m >>> j) % 2 := Nat.and_one_is_mod _
  unfold bitOn
  rw [h, Nat.testBit_eq_decide_div_mod_eq, Nat.shiftRight_eq_div_pow]
  by_cases hx : m / 2 ^ j % 2 = 1
  · rw [hx]; rfl
  · rw [decide_eq_false hx]
    cases hb : Nat.beq (m / 2 ^ j % 2) 1 with
    | false => rfl
    | true => exact (hx (Nat.eq_of_beq_eq_true hb)).elim

theorem maskUp_bit {ms : List Nat} {o : Oper} {j : Nat} (h : (maskUp ms o).testBit j = true) : ∃ e ∈ o.after, Region.binds .any e = true ∧ (e.on = j ∨ (ms.getD e.on 0).testBit j = true) := by
  have gen : ∀ (l : List Edge) (s : Nat), (l.foldl (fun s e => bif Region.binds .any e then s ||| 2 ^ e.on ||| ms.getD e.on 0 else s) s).testBit j = true → s.testBit j = true ∨ ∃ e ∈ l, Region.binds .any e = true ∧ (e.on = j ∨ (ms.getD e.on 0).testBit j = true) := by
    intro l
    induction l with
    | nil => intro s h; exact .inl h
    | cons e l ih =>
      intro s h
      rw [List.foldl_cons] at h
      rcases ih _ h with h1 | ⟨e', h1, h2⟩
      · cases hb : Region.binds .any e with
        | false => rw [hb] at h1; exact .inl h1
        | true =>
          rw [hb] at h1
          simp only [cond_true, Nat.testBit_or, Bool.or_eq_true, Nat.testBit_two_pow, decide_eq_true_eq] at h1
          rcases h1 with (h1 | h1) | h1
          · exact .inl h1
          · exact .inr ⟨e, by simp, hb, .inl h1⟩
          · exact .inr ⟨e, by simp, hb, .inr h1⟩
      · exact .inr ⟨e', by simp [h1], h2⟩
  rcases gen o.after.toList 0 h with h1 | ⟨e, h1, h2⟩
  · simp at h1
  · exact ⟨e, by simpa using h1, h2⟩
theorem okMask_get {ms : List Nat} : ∀ {l : List Oper} {i : Nat}, okMask ms i l = true → ∀ (k : Nat) (o : Oper), l[k]? = some o →
    (∀ j, (ms.getD (i + k) 0).testBit j = true → (maskUp ms o).testBit j = true) ∧ ∀ e ∈ o.after, Region.binds .any e = true → e.on < i + k
  | [], i, _, k, o, h => by simp at h
  | x :: l, i, h, 0, o, hk => by
    simp only [okMask, Bool.and_eq_true] at h
    simp only [List.getElem?_cons_zero, Option.some.injEq] at hk
    subst hk
    obtain ⟨⟨h1, h2⟩, _⟩ := h
    have h1 := Nat.eq_of_beq_eq_true h1
    refine ⟨fun j hj => ?_, fun e he hb => ?_⟩
    · rw [← h1, Nat.testBit_or]; simp only [Nat.add_zero] at hj; rw [hj]; simp
    · have := List.all_eq_true.1 h2 e (by simpa using he)
      rw [hb] at this
      simpa using this
  | x :: l, i, h, k + 1, o, hk => by
    simp only [okMask, Bool.and_eq_true] at h
    have := okMask_get h.2 k o (by simpa using hk)
    have e1 : i + (k + 1) = i + 1 + k := by omega
    rw [e1]; exact this
theorem okTail_get {ms : List Nat} {k : Nat} : ∀ {n : Nat}, okTail ms k n = true → ∀ i, i < n → ms.getD (k + i) 0 = 2 ^ (k + i) - 1
  | 0, _, i, h => by omega
  | n + 1, h, i, hi => by
    simp only [okTail, Bool.and_eq_true] at h
    rcases Nat.lt_or_ge i n with h1 | h1
    · exact okTail_get h.2 i h1
    · have : i = n := by omega
      subst this
      exact Nat.eq_of_beq_eq_true h.1

theorem okTailZ_get {zm : Nat} {ms : List Nat} {k : Nat} : ∀ {n : Nat}, okTailZ zm ms k n = true → ∀ i, i < n → ms.getD (k + i) 0 ||| zm = 2 ^ (k + i) - 1
  | 0, _, i, h => by omega
  | n + 1, h, i, hi => by
    simp only [okTailZ, Bool.and_eq_true] at h
    rcases Nat.lt_or_ge i n with h1 | h1
    · exact okTailZ_get h.2 i h1
    · have : i = n := by omega
      subst this
      exact Nat.eq_of_beq_eq_true h.1

theorem RA_spec {P : Program} {C : Cx} {ops : Array Oper} {e0 : Env} {H0 : List SO} {Fin : List Oper → List Ent → Prop} : ∀ {ms : List Nat} {l : List Oper} {acc : List Ent}, RAf P C ops e0 H0 Fin ms l acc →
    ms.length ≤ l.length ∧ ∃ F, (∃ newer, F = newer ++ acc) ∧ F.length = acc.length + ms.length ∧ (∀ newer x older, F = newer ++ x :: older → acc.length ≤ older.length →
      ∃ m o, ms[older.length - acc.length]? = some m ∧ l[older.length - acc.length]? = some o ∧ x.j = older.length ∧ x.d = o.dst ∧ Step P C ops e0 H0 m o older x.V x.N) ∧
      Fin (l.drop ms.length) F
  | [], l, acc, h => by
    have h' : Fin l acc := by cases l <;> exact h
    refine ⟨by simp, acc, ⟨[], rfl⟩, by simp, fun newer x older h1 h2 => ?_, h'⟩
    have := congrArg List.length h1
    simp at this
    omega
  | m :: ms, o :: l, acc, h => by
    obtain ⟨V, N, h1, h2⟩ := h
    obtain ⟨h0, F, ⟨newer0, h3⟩, h4, h5, h6⟩ := RA_spec h2
    refine ⟨by simp; exact h0, F, ⟨newer0 ++ [⟨acc.length, o.dst, V, N⟩], by simp [h3]⟩, by simp at h4 ⊢; omega, fun newer x older q1 q2 => ?_, by simpa using h6⟩
    rcases Nat.eq_or_lt_of_le q2 with q3 | q3
    · have e1 : newer ++ x :: older = newer0 ++ ⟨acc.length, o.dst, V, N⟩ :: acc := by rw [← q1, h3]
      have e2 := List.append_inj' e1 (by simp; omega)
      obtain ⟨e3, e4⟩ := e2
      simp only [List.cons.injEq] at e4
      obtain ⟨rfl, rfl⟩ := e4
      exact ⟨m, o, by simp, by simp, rfl, rfl, h1⟩
    · obtain ⟨m', o', r1, r2, r3⟩ := h5 newer x older q1 (by simp; omega)
      refine ⟨m', o', ?_, ?_, r3⟩
      · have : older.length - acc.length = (older.length - (⟨acc.length, o.dst, V, N⟩ :: acc).length) + 1 := by simp; omega
        rw [this]; simpa using r1
      · have : older.length - acc.length = (older.length - (⟨acc.length, o.dst, V, N⟩ :: acc).length) + 1 := by simp; omega
        rw [this]; simpa using r2
  | _ :: _, [], _, h => h.elim
end Go.Sx

set_option linter.unusedVariables false
set_option linter.unusedSimpArgs false
namespace Go.Sx
open Go Go.RowKit

/-- What is known of the entries themselves. -/
structure Fine (e0 : Env) (H0 : List SO) (F : List Ent) : Prop where
  idx : ∀ newer x older, F = newer ++ x :: older → x.j = older.length
  fresh : ∀ newer x older, F = newer ++ x :: older → freshD (envR e0 always older) x.d
  inbV : ∀ newer x older, F = newer ++ x :: older → x.V.inb (hl H0 (x :: older)) = true
  inbN : ∀ newer x older, F = newer ++ x :: older → inbH (hl H0 (x :: older)) x.N = true
  own : ∀ newer x older, F = newer ++ x :: older → allOwn x.N = true
  inbE : inbE H0.length e0 = true
  inbH : inbH H0.length H0 = true

theorem Fine.tail {e0 : Env} {H0 : List SO} {newer F : List Ent} (h : Fine e0 H0 (newer ++ F)) : Fine e0 H0 F :=
  ⟨fun n x o e => h.idx (newer ++ n) x o (by simp [e]), fun n x o e => h.fresh (newer ++ n) x o (by simp [e]), fun n x o e => h.inbV (newer ++ n) x o (by simp [e]), fun n x o e => h.inbN (newer ++ n) x o (by simp [e]),
   fun n x o e => h.own (newer ++ n) x o (by simp [e]), h.inbE, h.inbH⟩

theorem allOwn_get : ∀ {N : List SO}, allOwn N = true → ∀ (k : Nat) (y : SO), N[k]? = some y → y = .dead ∨ y.own = true
  | [], _, k, y, h => by simp at h
  | z :: N, hb, 0, y, h => by
    simp at h; subst h
    cases z with
    | dead => exact .inl rfl
    | box cs => exact .inr rfl
    | gen cs q => exact .inr rfl
    | arr α own sz enc d xs => simp only [allOwn, Bool.and_eq_true] at hb; exact .inr hb.1
  | z :: N, hb, k + 1, y, h => by
    refine allOwn_get (N := N) ?_ k y (by simpa using h)
    cases z with
    | dead => simpa [allOwn] using hb
    | box cs => simp only [allOwn, Bool.and_eq_true] at hb; exact hb.2
    | gen cs q => simp only [allOwn, Bool.and_eq_true] at hb; exact hb.2
    | arr α own sz enc d xs => simp only [allOwn, Bool.and_eq_true] at hb; exact hb.2

theorem envR_sub {e0 : Env} {p q : Nat → Bool} : ∀ {H0 : List SO} {F : List Ent}, Fine e0 H0 F → (∀ j, q j = true → p j = true) → ∀ t v, (envR e0 q F).get t = some v → (envR e0 p F).get t = some v
  | H0, [], _, _, t, v, h => h
  | H0, x :: F, hf, hpq, t, v, h => by
    have hf' : Fine e0 H0 F := Fine.tail (newer := [x]) hf
    have hfr := hf.fresh [] x F rfl
    simp only [envR_cons] at h ⊢
    cases hq : q x.j with
    | true =>
      rw [hq] at h
      rw [hpq _ hq]
      simp only [cond_true] at h ⊢
      cases hd : x.d with
      | none => rw [hd] at h; simp only [putO] at h ⊢; exact envR_sub hf' hpq t v h
      | some d =>
        rw [hd] at h
        simp only [putO, Env.get_cons] at h ⊢
        split
        · rename_i htd; rw [if_pos htd] at h; exact h
        · rename_i htd; rw [if_neg htd] at h; exact envR_sub hf' hpq t v h
    | false =>
      rw [hq] at h
      simp only [cond_false] at h
      have h1 := envR_sub hf' hpq t v h
      cases hp : p x.j with
      | false => simpa using h1
      | true =>
        simp only [cond_true]
        cases hd : x.d with
        | none => simpa [putO] using h1
        | some d =>
          simp only [putO, Env.get_cons]
          split
          · rename_i htd
            subst htd
            have h2 := envR_sub (q := q) (p := always) hf' (fun _ _ => rfl) t v h
            rw [hd] at hfr
            simp only [freshD] at hfr
            rw [hfr] at h2; cases h2
          · exact h1
theorem envR_cut {e0 : Env} {q : Nat → Bool} : ∀ (newer older : List Ent), (∀ y ∈ newer, q y.j = false) → envR e0 q (newer ++ older) = envR e0 q older
  | [], older, _ => rfl
  | x :: newer, older, h => by
    simp only [List.cons_append, envR_cons, h x (by simp), cond_false]
    exact envR_cut newer older (fun y hy => h y (by simp [hy]))
theorem envR_inb {e0 : Env} {H0 : List SO} {q : Nat → Bool} : ∀ {F : List Ent}, Fine e0 H0 F → ∀ t v, (envR e0 q F).get t = some v → v.inb (hl H0 F) = true
  | [], hf, t, v, h => inbE_get hf.inbE t v h
  | x :: F, hf, t, v, h => by
    have hle : hl H0 F ≤ hl H0 (x :: F) := by simp [hl_cons]
    have ih := fun (h : (envR e0 q F).get t = some v) => SV.inb_mono hle v (envR_inb (F := F) (Fine.tail (newer := [x]) hf) t v h)
    simp only [envR_cons] at h
    cases hq : q x.j with
    | false => rw [hq] at h; exact ih h
    | true =>
      rw [hq] at h
      simp only [cond_true] at h
      cases hd : x.d with
      | none => rw [hd] at h; exact ih h
      | some d =>
        rw [hd] at h
        simp only [putO, Env.get_cons] at h
        split at h
        · simp only [Option.some.injEq] at h; subst h; exact hf.inbV [] x F rfl
        · exact ih h
theorem heapR_inb {e0 : Env} {H0 : List SO} {q : Nat → Bool} : ∀ {F : List Ent}, Fine e0 H0 F → ∀ (o : Nat) (z : SO), (heapR H0 q F)[o]? = some z → z.inb (hl H0 F) = true
  | [], hf, o, z, h => inbH_get hf.inbH o z h
  | x :: F, hf, o, z, h => by
    rw [heapR_cons] at h
    rcases Nat.lt_or_ge o (heapR H0 q F).length with h1 | h1
    · rw [List.getElem?_append_left h1] at h
      exact SO.inb_mono (by simp [hl_cons]) z (heapR_inb (Fine.tail (newer := [x]) hf) o z h)
    · rw [List.getElem?_append_right h1] at h
      cases hq : q x.j with
      | true => rw [hq] at h; exact inbH_get (hf.inbN [] x F rfl) _ z h
      | false =>
        rw [hq] at h
        simp only [cond_false, List.getElem?_map, Option.map_eq_some_iff] at h
        obtain ⟨y, h2, rfl⟩ := h
        rfl
theorem heapR_sub {H0 : List SO} {p q : Nat → Bool} (hpq : ∀ j, q j = true → p j = true) : ∀ (F : List Ent) (o : Nat) (z : SO), (heapR H0 q F)[o]? = some z → z = .dead ∨ (heapR H0 p F)[o]? = some z
  | [], o, z, h => .inr h
  | x :: F, o, z, h => by
    rw [heapR_cons] at h ⊢
    rcases Nat.lt_or_ge o (hl H0 F) with h1 | h1
    · rw [List.getElem?_append_left (by rw [heapR_len]; exact h1)] at h ⊢
      exact heapR_sub hpq F o z h
    · rw [List.getElem?_append_right (by rw [heapR_len]; exact h1)] at h ⊢
      rw [heapR_len] at h ⊢
      cases hq : q x.j with
      | true => rw [hq] at h; rw [hpq _ hq]; exact .inr h
      | false =>
        rw [hq] at h
        simp only [cond_false, List.getElem?_map, Option.map_eq_some_iff] at h
        obtain ⟨y, h2, rfl⟩ := h
        exact .inl rfl
theorem heapR_congr {H0 : List SO} {p q : Nat → Bool} : ∀ {F : List Ent}, (∀ y ∈ F, p y.j = q y.j) → heapR H0 p F = heapR H0 q F
  | [], _ => rfl
  | x :: F, h => by rw [heapR_cons, heapR_cons, h x (by simp), heapR_congr (F := F) (fun y hy => h y (by simp [hy]))]
theorem envR_congr {e0 : Env} {p q : Nat → Bool} : ∀ {F : List Ent}, (∀ y ∈ F, p y.j = q y.j) → envR e0 p F = envR e0 q F
  | [], _ => rfl
  | x :: F, h => by simp only [envR_cons]; rw [h x (by simp), envR_congr (F := F) (fun y hy => h y (by simp [hy]))]

/-- The state when the operations that p names are done. -/
structure SA (C : Cx) (e0 : Env) (H0 : List SO) (F : List Ent) (p : Nat → Bool) (ρ : Rho) (a : Act) (w : World) : Prop where
  env : EnvOK ρ (envR e0 p F) a
  st : St ρ (heapR H0 p F) w
  none : ∀ o, o < ρ.length → masked H0 p F o = true → ρ[o]? = some none
  pre : C.ρ.length ≤ H0.length
  ev : Ev C.ρ C.H C.w ρ (heapR H0 p F) w
  sz : a.tmps.size = C.nt
  df : Mk C ρ (heapR H0 p F) w a.defers

section step
variable {C : Cx} {e0 : Env} {H0 : List SO} {F newer older : List Ent} {x : Ent} {p q : Nat → Bool} {ρ : Rho} {a : Act} {w : World}

theorem weak_env (hs : SA C e0 H0 F p ρ a w) (hf : Fine e0 H0 F) (hF : F = newer ++ older) (hq : ∀ j, q j = true → p j = true) (hn : ∀ y ∈ newer, q y.j = false) : EnvOK (ρ.take (hl H0 older)) (envR e0 q older) a := by
  intro t v h
  subst hF
  refine Rep.take _ _ (envR_inb hf.tail t v h) (hs.env t v (envR_sub hf hq t v ?_))
  rw [envR_cut newer older hn]; exact h
theorem weak_get (hF : F = newer ++ older) (hq : ∀ j, q j = true → p j = true) {o : Nat} {z : SO} (h : (heapR H0 q older)[o]? = some z) : o < hl H0 older ∧ (z = .dead ∨ (heapR H0 p F)[o]? = some z) := by
  have hlt : o < hl H0 older := by rw [← heapR_len (H0 := H0) (p := q)]; exact (List.getElem?_eq_some_iff.1 h).1
  refine ⟨hlt, ?_⟩
  subst hF
  rw [heapR_get newer older o hlt]
  exact heapR_sub hq older o z h
theorem take_of {ρ : Rho} {n o : Nat} {io : Option Info} (h : (ρ.take n)[o]? = some io) : ρ[o]? = some io ∧ o < n := by
  rw [List.getElem?_take] at h
  split at h
  · exact ⟨h, by assumption⟩
  · cases h
theorem weak_st (hs : SA C e0 H0 F p ρ a w) (hf : Fine e0 H0 F) (hF : F = newer ++ older) (hq : ∀ j, q j = true → p j = true) : St (ρ.take (hl H0 older)) (heapR H0 q older) w := by
  have hlen : ρ.length = hl H0 F := by rw [hs.st.len, heapR_len]
  have hle : hl H0 older ≤ hl H0 F := by subst hF; exact hl_le newer older
  refine ⟨by rw [heapR_len, List.length_take]; omega, fun o z io hz hio => ?_, fun o o' I I' z z' q1 q2 q3 q4 q5 q6 q7 => ?_, fun o o' I I' z z' q1 q2 q3 q4 q5 q6 q7 q8 => ?_⟩
  · rcases (weak_get hF hq hz).2 with rfl | h2
    · trivial
    · have hb : z.inb (hl H0 older) = true := by subst hF; exact heapR_inb hf.tail o z hz
      exact (hs.st.ok o z io h2 (take_of hio).1).take hb
  · have n1 : z ≠ .dead := fun e => by subst e; cases q5
    have n2 : z' ≠ .dead := fun e => by subst e; cases q6
    exact hs.st.inj o o' I I' z z' (take_of q1).1 (take_of q2).1 ((weak_get hF hq q3).2.resolve_left n1) ((weak_get hF hq q4).2.resolve_left n2) q5 q6 q7
  · have n1 : z ≠ .dead := fun e => by subst e; cases q5
    exact hs.st.ro o o' I I' z z' (take_of q1).1 (take_of q2).1 ((weak_get hF hq q3).2.resolve_left n1) ((weak_get hF hq q4).2.resolve_left (fun e => q7 e)) q5 q6 q7 q8

theorem heapR_split {H0 : List SO} {p : Nat → Bool} (newer : List Ent) (x : Ent) (older : List Ent) (o : Nat) (z : SO) (h : (heapR H0 p (newer ++ x :: older))[o]? = some z) :
    o < hl H0 older ∨ (∃ k, o = hl H0 older + k ∧ k < x.N.length ∧ (bif p x.j then x.N else x.N.map fun _ => .dead)[k]? = some z) ∨ hl H0 (x :: older) ≤ o := by
  rcases Nat.lt_or_ge o (hl H0 older) with h1 | h1
  · exact .inl h1
  · rcases Nat.lt_or_ge o (hl H0 (x :: older)) with h2 | h2
    · rw [heapR_get newer (x :: older) o h2, heapR_cons, List.getElem?_append_right (by rw [heapR_len]; exact h1), heapR_len] at h
      simp only [hl_cons] at h2
      exact .inr (.inl ⟨o - hl H0 older, by omega, by omega, h⟩)
    · exact .inr (.inr h2)
theorem heapR_far {H0 : List SO} {p p' : Nat → Bool} (x : Ent) (older : List Ent) : ∀ (newer : List Ent) (o : Nat), hl H0 (x :: older) ≤ o → (∀ y ∈ newer, p y.j = p' y.j) → (heapR H0 p (newer ++ x :: older))[o]? = (heapR H0 p' (newer ++ x :: older))[o]?
  | [], o, h, _ => by
    rw [List.nil_append, List.getElem?_eq_none (by rw [heapR_len]; exact h), List.getElem?_eq_none (by rw [heapR_len]; exact h)]
  | y :: newer, o, h, hp => by
    rw [List.cons_append, heapR_cons, heapR_cons, hp y (by simp)]
    rcases Nat.lt_or_ge o (hl H0 (newer ++ x :: older)) with h1 | h1
    · rw [List.getElem?_append_left (by rw [heapR_len]; exact h1), List.getElem?_append_left (by rw [heapR_len]; exact h1)]
      exact heapR_far x older newer o h (fun z hz => hp z (by simp [hz]))
    · rw [List.getElem?_append_right (by rw [heapR_len]; exact h1), List.getElem?_append_right (by rw [heapR_len]; exact h1), heapR_len, heapR_len]
theorem masked_far {H0 : List SO} {p p' : Nat → Bool} (x : Ent) (older : List Ent) : ∀ (newer : List Ent) (o : Nat), hl H0 (x :: older) ≤ o → (∀ y ∈ newer, p y.j = p' y.j) → o < hl H0 (newer ++ x :: older) → masked H0 p (newer ++ x :: older) o = masked H0 p' (newer ++ x :: older) o
  | [], o, h, _, h2 => by simp only [List.nil_append] at h2; omega
  | y :: newer, o, h, hp, h2 => by
    simp only [List.cons_append, masked]
    rw [hp y (by simp)]
    rcases Nat.lt_or_ge o (hl H0 (newer ++ x :: older)) with h1 | h1
    · rw [if_pos h1, if_pos h1]
      exact masked_far x older newer o h (fun z hz => hp z (by simp [hz])) h1
    · rw [if_neg (by omega), if_neg (by omega)]

theorem Fine.old {e0 : Env} {H0 : List SO} {newer older : List Ent} {x : Ent} (hf : Fine e0 H0 (newer ++ x :: older)) : ∀ y ∈ older, y.j < x.j := by
  intro y hy
  obtain ⟨s, t, rfl⟩ := List.append_of_mem hy
  have h1 := hf.idx newer x _ rfl
  have h2 := hf.idx (newer ++ x :: s) y t (by simp)
  rw [h1, h2]; simp
  omega
theorem Fine.new {e0 : Env} {H0 : List SO} {newer older : List Ent} {x : Ent} (hf : Fine e0 H0 (newer ++ x :: older)) : ∀ y ∈ newer, x.j < y.j := by
  intro y hy
  obtain ⟨s, t, rfl⟩ := List.append_of_mem hy
  have h1 := hf.idx (s ++ y :: t) x older rfl
  have h2 := hf.idx s y (t ++ x :: older) (by simp)
  rw [h1, h2]; simp
  omega

/-- The environment when one more is done. -/
theorem envR_put {p' : Nat → Bool} (hf : Fine e0 H0 (newer ++ x :: older)) (hp' : ∀ j, p' j = (p j || Nat.beq j x.j)) (hp : p x.j = false) : ∀ t u, (envR e0 p' (newer ++ x :: older)).get t = some u → (putO (envR e0 p (newer ++ x :: older)) x.d x.V).get t = some u := by
  have hx : p' x.j = true := by rw [hp']; simp
  have hne : ∀ y : Ent, y.j ≠ x.j → p' y.j = p y.j := by
    intro y hy
    rw [hp']
    have : Nat.beq y.j x.j = false := by
      cases hb : Nat.beq y.j x.j with
      | false => rfl
      | true => exact (hy (Nat.eq_of_beq_eq_true hb)).elim
    rw [this, Bool.or_false]
  have gen : ∀ (newer : List Ent), Fine e0 H0 (newer ++ x :: older) → ∀ t u, (envR e0 p' (newer ++ x :: older)).get t = some u → (putO (envR e0 p (newer ++ x :: older)) x.d x.V).get t = some u := by
    intro newer
    induction newer with
    | nil =>
      intro hf t u h
      have e1 : envR e0 p' older = envR e0 p older := envR_congr fun y hy => hne y (by have := hf.old y hy; omega)
      simp only [List.nil_append, envR_cons, hx, cond_true, e1, hp, cond_false] at h ⊢
      exact h
    | cons y newer ih =>
      intro hf t u h
      have hyx : y.j ≠ x.j := by have := Fine.new hf y (by simp); omega
      have hfr := hf.fresh [] y (newer ++ x :: older) rfl
      simp only [List.cons_append, envR_cons, hne y hyx] at h ⊢
      cases hpy : p y.j with
      | false =>
        rw [hpy] at h
        simp only [cond_false] at h ⊢
        exact ih (Fine.tail (newer := [y]) hf) t u h
      | true =>
        rw [hpy] at h
        simp only [cond_true] at h ⊢
        cases hd : y.d with
        | none => rw [hd] at h; simp only [putO] at h ⊢; exact ih (Fine.tail (newer := [y]) hf) t u h
        | some d =>
          rw [hd] at h hfr
          have h' : (if t = d then some y.V else (envR e0 p' (newer ++ x :: older)).get t) = some u := by
            simpa only [putO, Env.get_cons] using h
          have hdx : x.d ≠ some d := by
            intro hc
            have h2 : (envR e0 p' (newer ++ x :: older)).get d ≠ none := by
              intro hn
              -- x's own entry gives d a value
              have : ∀ (nw : List Ent), ∃ v, (envR e0 always (nw ++ x :: older)).get d = some v := by
                intro nw
                induction nw with
                | nil => exact ⟨x.V, by simp [envR_cons, always, hc, putO, Env.get_cons]⟩
                | cons z nw ih2 =>
                  obtain ⟨v, hv⟩ := ih2
                  simp only [List.cons_append, envR_cons, always, cond_true]
                  cases hz : z.d with
                  | none => exact ⟨v, by simpa [putO] using hv⟩
                  | some dz =>
                    simp only [putO, Env.get_cons]
                    by_cases hdd : d = dz
                    · exact ⟨z.V, by rw [if_pos hdd]⟩
                    · exact ⟨v, by rw [if_neg hdd]; exact hv⟩
              obtain ⟨v, hv⟩ := this newer
              simp only [freshD] at hfr
              rw [hfr] at hv; cases hv
            apply h2
            cases hg : (envR e0 p' (newer ++ x :: older)).get d with
            | none => rfl
            | some v =>
              have := envR_sub (q := p') (p := always) (Fine.tail (newer := [y]) hf) (fun _ _ => rfl) d v hg
              simp only [freshD] at hfr
              exact absurd (hfr.symm.trans this) (by simp)
          have ih' := fun hh => ih (Fine.tail (newer := [y]) hf) t u hh
          cases hxd : x.d with
          | none =>
            rw [hxd] at ih'
            simp only [putO, Env.get_cons] at ih' ⊢
            split
            · rename_i htd; rw [if_pos htd] at h'; exact h'
            · rename_i htd; rw [if_neg htd] at h'; exact ih' h'
          | some dx =>
            rw [hxd] at ih' hdx
            simp only [putO, Env.get_cons] at ih' ⊢
            by_cases htd : t = d
            · rw [if_pos htd] at h'
              have : t ≠ dx := fun e => hdx (by rw [← htd, e])
              rw [if_neg this, if_pos htd]; exact h'
            · rw [if_neg htd] at h'
              have := ih' h'
              rw [if_neg htd]; exact this
  exact gen newer hf
end step
end Go.Sx

set_option linter.unusedVariables false
set_option linter.unusedSimpArgs false
namespace Go.Sx
open Go Go.RowKit

section
variable {C : Cx} {e0 : Env} {H0 : List SO} {F newer older : List Ent} {x : Ent} {p q p' : Nat → Bool} {ρ : Rho} {a : Act} {w : World}

theorem step_st (hs : SA C e0 H0 F p ρ a w) (hf : Fine e0 H0 F) (hF : F = newer ++ x :: older) (hq : ∀ j, q j = true → p j = true) (hp' : ∀ j, p' j = (p j || Nat.beq j x.j)) (hp : p x.j = false)
    (hdst : dstOK x.d C.nt = true) {ρ1 : Rho} {w' : World} {v : Value} (hv : Rep ρ1 x.V v) (h1 : St ρ1 (heapR H0 q older ++ x.N) w') (hev : Ev (ρ.take (hl H0 older)) (heapR H0 q older) w ρ1 (heapR H0 q older ++ x.N) w') :
    ∃ ρ', SA C e0 H0 F p' ρ' (a.put x.d v) w' := by
  have hlen : ρ.length = hl H0 F := by rw [hs.st.len, heapR_len]
  have hle : hl H0 (x :: older) ≤ hl H0 F := by subst hF; exact hl_le newer _
  have hle0 : hl H0 (x :: older) = hl H0 older + x.N.length := hl_cons _ _
  have hlen1 : ρ1.length = hl H0 (x :: older) := by rw [h1.len, List.length_append, heapR_len, hl_cons]
  have hw := weak_st hs hf (newer := newer ++ [x]) (older := older) (by simp [hF]) hq
  have hx' : p' x.j = true := by rw [hp']; simp
  have hne : ∀ y : Ent, y.j ≠ x.j → p y.j = p' y.j := by
    intro y hy
    rw [hp']
    have : Nat.beq y.j x.j = false := by
      cases hb : Nat.beq y.j x.j with
      | false => rfl
      | true => exact (hy (Nat.eq_of_beq_eq_true hb)).elim
    rw [this, Bool.or_false]
  have hf' : Fine e0 H0 (newer ++ x :: older) := hF ▸ hf
  have hold : ∀ y ∈ older, p y.j = p' y.j := fun y hy => hne y (by have := hf'.old y hy; omega)
  have hnew : ∀ y ∈ newer, p y.j = p' y.j := fun y hy => hne y (by have := hf'.new y hy; omega)
  -- the knowledge
  let ρ' : Rho := ρ1 ++ ρ.drop (hl H0 (x :: older))
  have hlen' : ρ'.length = hl H0 F := by simp [ρ', hlen1]; omega
  have gLow : ∀ o, o < hl H0 older → ρ'[o]? = ρ[o]? := by
    intro o ho
    obtain ⟨m, hm⟩ := hev.pre
    have e1 : ρ'[o]? = ρ1[o]? := List.getElem?_append_left (by omega)
    rw [e1, ← hm, List.getElem?_append_left (by rw [List.length_take]; omega), List.getElem?_take, if_pos ho]
  have gMid : ∀ o, o < hl H0 (x :: older) → ρ'[o]? = ρ1[o]? := fun o ho => List.getElem?_append_left (by omega)
  have gHigh : ∀ o, hl H0 (x :: older) ≤ o → ρ'[o]? = ρ[o]? := by
    intro o ho
    have e1 : ρ'[o]? = (ρ.drop (hl H0 (x :: older)))[o - ρ1.length]? := List.getElem?_append_right (by omega)
    rw [e1, List.getElem?_drop]
    congr 1
    omega
  have gSlot : ∀ k, k < x.N.length → ρ[hl H0 older + k]? = some none := by
    intro k hk
    refine hs.none _ (by omega) ?_
    rw [hF, masked_get newer (x :: older) _ (by omega)]
    simp only [masked]
    rw [if_neg (by omega), hp]; rfl
  have hext : Ext ρ ρ' := by
    intro o I ho
    rcases Nat.lt_or_ge o (hl H0 older) with h | h
    · rw [gLow o h]; exact ho
    · rcases Nat.lt_or_ge o (hl H0 (x :: older)) with h2 | h2
      · exfalso
        have := gSlot (o - hl H0 older) (by omega)
        have e1 : hl H0 older + (o - hl H0 older) = o := by omega
        rw [e1, ho] at this
        cases this
      · rw [gHigh o h2]; exact ho
  have hext1 : Ext ρ1 ρ' := Ext.append _ _
  -- lookups of the new heap
  have lookup : ∀ o z, (heapR H0 p' F)[o]? = some z → (∃ k, k < x.N.length ∧ o = hl H0 older + k ∧ x.N[k]? = some z) ∨ ((heapR H0 p F)[o]? = some z ∧ ρ'[o]? = ρ[o]? ∧ (o < hl H0 older ∨ hl H0 (x :: older) ≤ o)) := by
    intro o z h
    rw [hF] at h
    rcases heapR_split newer x older o z h with h2 | ⟨k, h2, h3, h4⟩ | h2
    · refine .inr ⟨?_, gLow o h2, .inl h2⟩
      have e1 : newer ++ x :: older = (newer ++ [x]) ++ older := by simp
      rw [e1] at h
      rw [hF, e1, heapR_get (newer ++ [x]) older o h2, heapR_congr hold]
      rw [heapR_get (newer ++ [x]) older o h2] at h
      exact h
    · rw [hx'] at h4
      exact .inl ⟨k, h3, h2, h4⟩
    · refine .inr ⟨?_, gHigh o h2, .inr h2⟩
      rw [hF, heapR_far x older newer o h2 hnew]
      exact h
  have slot1 : ∀ k z, x.N[k]? = some z → (heapR H0 q older ++ x.N)[hl H0 older + k]? = some z := by
    intro k z h
    rw [List.getElem?_append_right (by rw [heapR_len]; omega), heapR_len]
    have : hl H0 older + k - hl H0 older = k := by omega
    rw [this]; exact h
  have nd : ∀ z : SO, z.own = true → z ≠ .dead := fun z hz e => by subst e; cases hz
  -- own blocks of the weak state, in the whole one
  have hown0 : ∀ b, OwnB (ρ.take (hl H0 older)) (heapR H0 q older) b → ∃ (o : Nat) (I : Info) (z : SO), o < hl H0 older ∧ ρ[o]? = some (some I) ∧ (heapR H0 q older)[o]? = some z ∧ (heapR H0 p F)[o]? = some z ∧ z.own = true ∧ I.b = b := by
    rintro b ⟨o, I, z, r1, r2, r3, r4⟩
    obtain ⟨k1, k2⟩ := weak_get (newer := newer ++ [x]) (F := F) (by simp [hF]) hq r2
    exact ⟨o, I, z, k1, (take_of r1).1, r2, k2.resolve_left (nd z r3), r3, r4⟩
  have hltOld : ∀ (o : Nat) (z : SO) (I : Info), (heapR H0 p F)[o]? = some z → ρ[o]? = some (some I) → z ≠ .dead → I.b < w.heap.size := fun o z I k1 k2 k3 => hs.st.fresh_free k2 k1 k3
  have oldnew : ∀ (o k : Nat) (z y : SO) (I I' : Info), (heapR H0 p F)[o]? = some z → ρ[o]? = some (some I) → ρ'[o]? = ρ[o]? → z.own = true → x.N[k]? = some y → ρ1[hl H0 older + k]? = some (some I') → y.own = true → I.b = I'.b → (o < hl H0 older ∨ hl H0 (x :: older) ≤ o) → False := by
    intro o k z y I I' k1 k2 k3 k4 k5 k6 k7 k8 k9
    have hb : OwnB ρ1 (heapR H0 q older ++ x.N) I'.b := ⟨_, I', y, k6, slot1 k y k5, k7, rfl⟩
    rcases hev.own _ hb with hb | hb
    · obtain ⟨o2, I2, z2, m1, m2, m3, m4, m5, m6⟩ := hown0 _ hb
      have := hs.st.inj o o2 I I2 z z2 k2 m2 k1 m4 k4 m5 (by rw [k8, m6])
      subst this
      have e1 : ρ1[o]? = some (some I) := by rw [← gMid o (by omega), k3]; exact k2
      have := h1.inj o (hl H0 older + k) I I' z2 y e1 k6 (by rw [List.getElem?_append_left (by rw [heapR_len]; exact m1)]; exact m3) (slot1 k y k5) m5 k7 k8
      omega
    · have := hltOld o z I k1 k2 (nd z k4)
      omega
  have hst : St ρ' (heapR H0 p' F) w' := by
    refine ⟨by rw [hlen', heapR_len], fun o z io hz hio => ?_, fun o o' I I' z z' q1 q2 q3 q4 q5 q6 q7 => ?_, fun o o' I I' z z' q1 q2 q3 q4 q5 q6 q7 q8 => ?_⟩
    · rcases lookup o z hz with ⟨k, k1, rfl, k3⟩ | ⟨k1, k2, k3⟩
      · rw [gMid _ (by omega)] at hio
        exact (h1.ok _ z io (slot1 k z k3) hio).keep hext1 (Nat.le_refl _) (fun _ _ _ _ => rfl)
      · rw [k2] at hio
        by_cases hlive : o < hl H0 older ∧ (heapR H0 q older)[o]? = some z
        · have e1 : ρ1[o]? = some io := by rw [← gMid o (by omega), k2]; exact hio
          exact (h1.ok o z io (by rw [List.getElem?_append_left (by rw [heapR_len]; exact hlive.1)]; exact hlive.2) e1).keep hext1 (Nat.le_refl _) (fun _ _ _ _ => rfl)
        · refine (hs.st.ok o z io k1 hio).keep hext hev.size (fun I hI hd hlt => ?_)
          subst hI
          refine hev.block _ hlt (fun hb => ?_)
          obtain ⟨o2, I2, z2, m1, m2, m3, m4, m5, m6⟩ := hown0 _ hb
          cases hz2 : z.own with
          | true =>
            have := hs.st.inj o o2 I I2 z z2 hio m2 k1 m4 hz2 m5 (by rw [m6])
            subst this
            rw [k1] at m4
            simp only [Option.some.injEq] at m4
            subst m4
            exact hlive ⟨m1, m3⟩
          | false => exact hs.st.ro o2 o I2 I z2 z m2 hio m4 k1 m5 hz2 (fun e => hd e) m6
    · rcases lookup o z q3 with ⟨k, k1, rfl, k3⟩ | ⟨k1, k2, k3⟩ <;> rcases lookup o' z' q4 with ⟨k', k1', rfl, k3'⟩ | ⟨k1', k2', k3'⟩
      · rw [gMid _ (by omega)] at q1 q2
        exact h1.inj _ _ I I' z z' q1 q2 (slot1 k z k3) (slot1 k' z' k3') q5 q6 q7
      · rw [gMid _ (by omega)] at q1
        rw [k2'] at q2
        exact (oldnew o' k z' z I' I k1' q2 k2' q6 k3 q1 q5 q7.symm k3').elim
      · rw [gMid _ (by omega)] at q2
        rw [k2] at q1
        exact (oldnew o k' z z' I I' k1 q1 k2 q5 k3' q2 q6 q7 k3).elim
      · rw [k2] at q1
        rw [k2'] at q2
        exact hs.st.inj o o' I I' z z' q1 q2 k1 k1' q5 q6 q7
    · rcases lookup o' z' q4 with ⟨k', k1', rfl, k3'⟩ | ⟨k1', k2', k3'⟩
      · rcases allOwn_get (hf.own newer x older hF) k' z' k3' with r | r
        · exact q7 r
        · rw [q6] at r; cases r
      · rw [k2'] at q2
        rcases lookup o z q3 with ⟨k, k1, rfl, k3⟩ | ⟨k1, k2, k3⟩
        · rw [gMid _ (by omega)] at q1
          have hb : OwnB ρ1 (heapR H0 q older ++ x.N) I.b := ⟨_, I, z, q1, slot1 k z k3, q5, rfl⟩
          rcases hev.own _ hb with hb | hb
          · obtain ⟨o2, I2, z2, m1, m2, m3, m4, m5, m6⟩ := hown0 _ hb
            exact hs.st.ro o2 o' I2 I' z2 z' m2 q2 m4 k1' m5 q6 q7 (m6.trans q8)
          · have := hltOld o' z' I' k1' q2 (fun e => q7 e)
            omega
        · rw [k2] at q1
          exact hs.st.ro o o' I I' z z' q1 q2 k1 k1' q5 q6 q7 q8
  refine ⟨ρ', ⟨fun t u hu => ?_, hst, fun o ho hm => ?_, hs.pre, ⟨?_, Nat.le_trans hs.ev.size hev.size, hev.os.trans hs.ev.os, hev.tape.trans hs.ev.tape, hev.output.trans hs.ev.output, fun b hb hno => ?_, fun b hb => ?_⟩, ?_, ?_⟩⟩
  · have h2 := envR_put (p' := p') hf' hp' hp t u (hF ▸ hu)
    have h3 : EnvOK ρ' (putO (envR e0 p F) x.d x.V) (a.put x.d v) := (hs.env.ext hext).put (Rep.ext hext1 _ _ hv) x.d (fun t ht => by rw [hs.sz]; exact dstOK_lt hdst t ht)
    rw [← hF] at h2
    exact h3 t u h2
  · have ho' : o < ρ.length := by omega
    rcases Nat.lt_or_ge o (hl H0 older) with h | h
    · rw [gLow o h]
      refine hs.none o ho' ?_
      have e1 : newer ++ x :: older = (newer ++ [x]) ++ older := by simp
      rw [hF, e1, masked_get _ older o h] at hm ⊢
      have gen : ∀ (G : List Ent), (∀ y ∈ G, p y.j = p' y.j) → masked H0 p G o = masked H0 p' G o := by
        intro G
        induction G with
        | nil => intro _; rfl
        | cons y G ih => intro hG; simp only [masked]; rw [hG y (by simp), ih (fun z hz => hG z (by simp [hz]))]
      rw [gen older hold]; exact hm
    · rcases Nat.lt_or_ge o (hl H0 (x :: older)) with h2 | h2
      · exfalso
        rw [hF, masked_get newer (x :: older) o h2] at hm
        simp only [masked] at hm
        rw [if_neg (by omega), hx'] at hm
        cases hm
      · rw [gHigh o h2]
        refine hs.none o ho' ?_
        rw [hF] at hm ⊢
        rw [masked_far x older newer o h2 hnew (by rw [← hF]; omega)]
        exact hm
  · -- what was known at the start is still a beginning of it
    obtain ⟨m, hm⟩ := hs.ev.pre
    refine ⟨ρ'.drop C.ρ.length, ?_⟩
    have : C.ρ = ρ'.take C.ρ.length := by
      apply List.ext_getElem?
      intro i
      rw [List.getElem?_take]
      split
      · rename_i hi
        have hb := hl_base (H0 := H0) older
        have := hs.pre
        rw [gLow i (by omega), ← hm, List.getElem?_append_left hi]
      · rename_i hi
        rw [List.getElem?_eq_none (by omega)]
    exact (congrArg (· ++ ρ'.drop C.ρ.length) this).trans (List.take_append_drop _ _)
  · refine (hev.block b (Nat.lt_of_lt_of_le hb hs.ev.size) (fun hc => ?_)).trans (hs.ev.block b hb hno)
    obtain ⟨o2, I2, z2, m1, m2, m3, m4, m5, m6⟩ := hown0 _ hc
    rcases hs.ev.own b ⟨o2, I2, z2, m2, m4, m5, m6⟩ with r | r
    · exact hno r
    · omega
  · obtain ⟨o, I, z, r1, r2, r3, r4⟩ := hb
    rcases lookup o z r2 with ⟨k, k1, rfl, k3⟩ | ⟨k1, k2, k3⟩
    · rw [gMid _ (by omega)] at r1
      rcases hev.own b ⟨_, I, z, r1, slot1 k z k3, r3, r4⟩ with hb | hb
      · obtain ⟨o2, I2, z2, m1, m2, m3, m4, m5, m6⟩ := hown0 _ hb
        exact hs.ev.own b ⟨o2, I2, z2, m2, m4, m5, m6⟩
      · exact .inr (Nat.le_trans hs.ev.size hb)
    · rw [k2] at r1
      exact hs.ev.own b ⟨o, I, z, r1, k1, r3, r4⟩
  · have := hs.sz
    cases x.d <;> simp [Act.put, this]
  · have hdf : Mk C ρ' (heapR H0 p' F) w' a.defers := by
      obtain ⟨rs, d1, d2, d3⟩ := hs.df
      refine ⟨rs, d1, d2, fun r hr => ?_⟩
      obtain ⟨f1, f2, f3⟩ := d3 r hr
      have hlt := (Array.getElem?_eq_some_iff.1 f2).1
      have hw : ¬ OwnB (ρ.take (hl H0 older)) (heapR H0 q older) r := fun hc => by
        obtain ⟨o2, I2, z2, m1, m2, m3, m4, m5, m6⟩ := hown0 _ hc
        exact f3 ⟨o2, I2, z2, m2, m4, m5, m6⟩
      refine ⟨f1, (hev.block r hlt hw).trans f2, fun hb => ?_⟩
      obtain ⟨o, I, z, r1, r2, r3, r4⟩ := hb
      rcases lookup o z r2 with ⟨k, k1, rfl, k3⟩ | ⟨k1, k2, k3⟩
      · rw [gMid _ (by omega)] at r1
        rcases hev.own r ⟨_, I, z, r1, slot1 k z k3, r3, r4⟩ with hb | hb
        · exact hw hb
        · omega
      · rw [k2] at r1
        exact f3 ⟨o, I, z, r1, k1, r3, r4⟩
    cases x.d <;> exact hdf
end
end Go.Sx

set_option linter.unusedVariables false
set_option linter.unusedSimpArgs false
namespace Go.Sx
open Go Go.RowKit

theorem OpDo.wp' {P : Program} {r : Option Nat} {o : Oper} {e : Env} {H : List SO} {K' : SV → List SO → Prop} {next : Act → World → Prop} {Q : Exit → Act → World → Prop} (h : OpDo P r o e H K') {ρ : Rho} {a : Act} {w : World} (he : EnvOK ρ e a) (hs : St ρ H w)
    (hn : ∀ v w', Left ρ H w K' v w' → next (a.put o.dst v) w') : o.wpIn (Fr r) 0 P a w next Q := by
  obtain ⟨hdef, h⟩ := h
  obtain ⟨n, w', hr, hk⟩ := h ρ a w he hs
  refine ⟨fun _ _ => trivial, ?_⟩
  rw [Oper.semAt_eq _ _ _ hdef, hr]
  cases n with
  | value v => exact hn _ _ hk
  | skip => exact hn _ _ hk
  | enter f args =>
    obtain ⟨rfl, hc⟩ := hk
    refine ⟨Fr.depth _, ?_⟩
    have hc' : CallsIn (Fr r) 0 P f args w' (Ends ρ H w' K') := by
      cases hr : r with
      | none => exact hc
      | some l => exact CallsIn.inRound l hc
    refine hc'.mono ?_
    rintro ed w2 ⟨v, rfl, hl⟩
    exact hn _ _ hl
  | round l f tmps assign body =>
    obtain ⟨rfl, hc⟩ := hk
    refine ⟨Fr.depth _, ?_⟩
    have hc' : RoundIn (Fr r) 0 P l f tmps assign body w' (Ends ρ H w' K') := by
      cases hr : r with
      | none => exact hc
      | some l => exact hc
    refine hc'.mono ?_
    rintro ed w2 ⟨v, rfl, hl⟩
    exact hn _ _ hl
  | _ => exact hk.elim

theorem Wants.eq {ops : Array Oper} {nt : Nat} {o : Oper} {e : Env} {b : Bool} (h : Wants ops nt o e b) {ρ : Rho} {a : Act} (he : EnvOK ρ e a) (hsz : a.tmps.size = nt) : Region.wanted o (yielded ops a.tmps) = b := by
  rcases h with ⟨h1, h2⟩ | ⟨j, want, gd, x, h1, h2, h3, h4, h5⟩ | ⟨j, want, gd, h1, h2, h3, h4, h5⟩
  · simp only [Region.wanted, h1, h2]
  · have hv := he gd _ h3
    simp only [Rep] at hv
    have hlt : gd < a.tmps.size := by rw [hsz]; exact blt_lt h4
    have hy : yielded ops a.tmps j = some x := by
      simp only [yielded, h2, Option.bind_some]
      rw [Array.getElem?_eq_getElem hlt]
      rw [Array.getD, dif_pos hlt] at hv
      have hv' : a.tmps[gd] = .bool x := hv
      rw [hv']
    simp only [Region.wanted, h1, hy, h5]
    cases x <;> cases want <;> rfl
  · have hv := he gd _ h3
    simp only [Rep] at hv
    have hlt : gd < a.tmps.size := by rw [hsz]; exact blt_lt h4
    have hy : yielded ops a.tmps j = none := by
      simp only [yielded, h2, Option.bind_some]
      rw [Array.getElem?_eq_getElem hlt]
      rw [Array.getD, dif_pos hlt] at hv
      have hv' : a.tmps[gd] = undef := hv
      rw [hv']; rfl
    simp only [Region.wanted, h1, hy, h5]
    cases want <;> rfl

/-- The listed ones as a predicate. -/
def inL (listed : Array Bool) (j : Nat) : Bool := listed.getD j false

section
variable {P : Program} {C : Cx} {e0 : Env} {H0 : List SO} {K : Exit → Env → List SO → Prop} {ms : List Nat} {l tl : List Oper} {F : List Ent} {ops : Array Oper}

/-- The walk's word on the way. -/
def Mid (P : Program) (C : Cx) (ops : Array Oper) (e0 : Env) (H0 : List SO) (F : List Ent) (tl : List Oper) (K : Exit → Env → List SO → Prop) (listed : Array Bool) (a : Act) (w : World) : Prop :=
  ((∀ i, F.length ≤ i → inL listed i = false) ∧ ∃ ρ, SA C e0 H0 F (inL listed) ρ a w) ∨
  ∃ t rest, (∀ i, inL listed i = true ↔ i < F.length + t) ∧ tl.drop t = rest ∧ t ≤ tl.length ∧ wpListIn (Fr C.r) 0 P ops (PQ C K) rest a w

theorem down {ops : Array Oper} (hops : ops = (l ++ tl).toArray) (hmask : okMask ms 0 (l ++ tl) = true) {listed : Array Bool} (hdown : ∀ (i : Nat) (o : Oper), ops[i]? = some o → inL listed i = true → ∀ e ∈ o.after, Region.binds .any e = true → inL listed e.on = true) :
    ∀ (i : Nat) (o : Oper), ops[i]? = some o → (∀ e ∈ o.after, Region.binds .any e = true → inL listed e.on = true) → ∀ j, (ms.getD i 0).testBit j = true → inL listed j = true := by
  intro i
  induction i using Nat.strongRecOn with
  | _ i ih =>
    intro o ho hall j hj
    have ho' : (l ++ tl)[i]? = some o := by rw [hops] at ho; simpa using ho
    obtain ⟨h1, h2⟩ := okMask_get hmask i o ho'
    rw [Nat.zero_add] at h1 h2
    obtain ⟨e, he, hb, h3⟩ := maskUp_bit (h1 j hj)
    rcases h3 with h3 | h3
    · rw [← h3]; exact hall e he hb
    · have hlt := h2 e he hb
      have hle : e.on < (l ++ tl).length := Nat.lt_trans hlt (List.getElem?_eq_some_iff.1 ho').1
      have ho2 : ops[e.on]? = some (l ++ tl)[e.on] := by rw [hops]; simp
      exact ih e.on hlt _ ho2 (fun e' he' hb' => hdown e.on _ ho2 (hall e he hb) e' he' hb') j h3

theorem set_inL {listed : Array Bool} {i : Nat} (hi : i < listed.size) (j : Nat) : inL (listed.setIfInBounds i true) j = (inL listed j || Nat.beq j i) := by
  unfold inL
  by_cases h : j = i
  · subst h
    simp [Array.getD_eq_getD_getElem?, hi]
  · have hb : Nat.beq j i = false := by
      cases hb : Nat.beq j i with
      | false => rfl
      | true => exact (h (Nat.eq_of_beq_eq_true hb)).elim
    rw [hb, Bool.or_false, getD_set_ne false (Ne.symm h)]

theorem any_sound (hops : ops = (l ++ tl).toArray) (hmask : okMask ms 0 (l ++ tl) = true) {zm : Nat} {zs : List Nat} (htail : okTailZ zm ms l.length tl.length = true) (hzm : ∀ j, zm.testBit j = true → j ∈ zs) (hzk : ∀ j ∈ zs, j < l.length) (hnd : zs.Nodup) (hlen : F.length = l.length) (hf : Fine e0 H0 F)
    (hstep : ∀ newer x older, F = newer ++ x :: older → ∃ m o, ms[older.length]? = some m ∧ l[older.length]? = some o ∧ x.j = older.length ∧ x.d = o.dst ∧ Step P C ops e0 H0 m o older x.V x.N)
    (hfin : RW P C ops tl (envR e0 always F) (heapR H0 always F) K) (hlate : ∀ Z : List Nat, Z ≠ [] → Z.Sublist zs → LateX P C ops e0 H0 K Z tl F) :
    ∀ (fuel : Nat) (listed : Array Bool) (a : Act) (w : World), listed.size = ops.size → (fuel + (listed.toList.filter id).length = ops.size) →
      (∀ (i : Nat) (o : Oper), ops[i]? = some o → inL listed i = true → ∀ e ∈ o.after, Region.binds .any e = true → inL listed e.on = true) →
      Mid P C ops e0 H0 F tl K listed a w → wpAnyIn (Fr C.r) 0 P .any ops (PQ C K) fuel listed a w := by
  have hsize : ops.size = l.length + tl.length := by rw [hops]; simp
  -- all grown: on to the tail
  have turn : ∀ (listed : Array Bool) (a : Act) (w : World), (∀ i, inL listed i = true ↔ i < F.length) → (∃ ρ, SA C e0 H0 F (inL listed) ρ a w) → wpListIn (Fr C.r) 0 P ops (PQ C K) tl a w := by
    intro listed a w hall ⟨ρ, hs⟩
    have hc : ∀ y ∈ F, inL listed y.j = always y.j := by
      intro y hy
      obtain ⟨s, t, hst⟩ := List.append_of_mem hy
      have := hf.idx s y t hst
      rw [(hall y.j).2 (by rw [this, hst]; simp; omega)]
    refine hfin a w ⟨ρ, ?_, ?_, ?_, hs.sz, ?_⟩
    · rw [← envR_congr hc]; exact hs.env
    · rw [← heapR_congr hc]; exact hs.st
    · rw [← heapR_congr hc]; exact hs.ev
    · rw [← heapR_congr hc]; exact hs.df
  -- if nothing is ready then all is listed
  have noneReady : ∀ (listed : Array Bool), listed.size = ops.size → Region.ready .any ops listed = [] → ∀ i, i < ops.size → inL listed i = true := by
    intro listed hsz hnil i
    induction i using Nat.strongRecOn with
    | _ i ih =>
      intro hi
      cases hb : inL listed i with
      | true => rfl
      | false =>
        exfalso
        have ho : ops[i]? = some ops[i] := by simp [hi]
        have ho' : (l ++ tl)[i]? = some ops[i] := by
          have e1 : (l ++ tl)[i]? = ops[i]? := by rw [hops]; simp
          rw [e1]; exact ho
        obtain ⟨_, h2⟩ := okMask_get hmask i _ ho'
        rw [Nat.zero_add] at h2
        have hmem : i ∈ Region.ready .any ops listed := by
          rw [mem_ready]
          refine ⟨?_, ops[i], ho, fun e he hbd => ih e.on (h2 e he hbd) (Nat.lt_trans (h2 e he hbd) hi)⟩
          unfold inL at hb
          rw [Array.getD_eq_getD_getElem?] at hb ⊢
          rw [Array.getElem?_eq_getElem (by omega)] at hb ⊢
          exact hb
        rw [hnil] at hmem
        cases hmem
  have done : ∀ (listed : Array Bool) (a : Act) (w : World), listed.size = ops.size → Region.ready .any ops listed = [] → Mid P C ops e0 H0 F tl K listed a w → PQ C K .normal a w := by
    intro listed a w hsz hnil hmid
    have hall := noneReady listed hsz hnil
    rcases hmid with ⟨h1, h2⟩ | ⟨t, rest, h1, h2, h3, h4⟩
    · have htl : tl = [] := by
        cases tl with
        | nil => rfl
        | cons y tl' =>
          have := h1 l.length (by omega)
          rw [hall l.length (by rw [hsize]; simp)] at this
          cases this
      have hiff : ∀ i, inL listed i = true ↔ i < F.length := by
        intro i
        constructor
        · intro hi
          rcases Nat.lt_or_ge i F.length with h | h
          · exact h
          · rw [h1 i h] at hi; cases hi
        · intro hi
          exact hall i (by omega)
      have := turn listed a w hiff h2
      rw [htl] at this
      exact this
    · have : t = tl.length := by
        rcases Nat.lt_or_ge t tl.length with h | h
        · have := (h1 (F.length + t)).1 (hall _ (by omega))
          omega
        · omega
      subst this
      simp at h2
      subst h2
      exact h4
  intro fuel
  induction fuel with
  | zero =>
    intro listed a w hsz hcount hdown hmid
    have hnil : Region.ready .any ops listed = [] := by
      cases hr : Region.ready .any ops listed with
      | nil => rfl
      | cons i rs =>
        exfalso
        have hm : i ∈ Region.ready .any ops listed := by rw [hr]; simp
        rw [mem_ready] at hm
        obtain ⟨h1, o, h2, h3⟩ := hm
        have hi : i < listed.size := by rw [hsz]; exact (Array.getElem?_eq_some_iff.1 h2).1
        have hall : ∀ b ∈ listed.toList, id b = true := by
          have hle := List.length_filter_eq_length_iff (p := id) (l := listed.toList)
          exact hle.1 (by simp; simp at hcount; omega)
        have := hall listed[i] (by simp)
        rw [Array.getD, dif_pos hi] at h1
        have h1' : listed[i] = false := h1
        rw [h1'] at this
        cases this
    exact ⟨hnil, done listed a w hsz hnil hmid⟩
  | succ fuel ih =>
    intro listed a w hsz hcount hdown hmid
    refine ⟨fun hnil => done listed a w hsz hnil hmid, fun i hi => ?_⟩
    rw [mem_ready] at hi
    obtain ⟨h1, o, ho, hready⟩ := hi
    have hlt : i < ops.size := (Array.getElem?_eq_some_iff.1 ho).1
    have hil : inL listed i = false := by
      unfold inL
      rw [Array.getD, dif_pos (by omega : i < listed.size)] at h1 ⊢
      exact h1
    have hsz' : (listed.setIfInBounds i true).size = ops.size := by simp [hsz]
    have hset := set_inL (listed := listed) (i := i) (by omega)
    have hcount' : fuel + ((listed.setIfInBounds i true).toList.filter id).length = ops.size := by
      have gen : ∀ (L : List Bool) (i : Nat), L[i]? = some false → ((L.set i true).filter id).length = (L.filter id).length + 1 := by
        intro L
        induction L with
        | nil => intro i h; simp at h
        | cons b L ihL =>
          intro i h
          cases i with
          | zero => simp at h; subst h; simp
          | succ i =>
            simp only [List.getElem?_cons_succ] at h
            have := ihL i h
            cases b <;> simp [List.filter_cons, this]
      have hg : listed.toList[i]? = some false := by
        rw [Array.getElem?_toList, Array.getElem?_eq_getElem (by omega)]
        rw [Array.getD, dif_pos (by omega : i < listed.size)] at h1
        have h1' : listed[i] = false := h1
        rw [h1']
      have := gen _ i hg
      rw [Array.toList_setIfInBounds, this]
      omega
    have hdown' : ∀ (k : Nat) (o : Oper), ops[k]? = some o → inL (listed.setIfInBounds i true) k = true → ∀ e ∈ o.after, Region.binds .any e = true → inL (listed.setIfInBounds i true) e.on = true := by
      intro k o' hk hl e he hb
      rw [hset] at hl ⊢
      by_cases hki : k = i
      · subst hki
        rw [ho] at hk
        simp only [Option.some.injEq] at hk
        subst hk
        rw [show inL listed e.on = true from hready e he hb]; rfl
      · have : Nat.beq k i = false := by
          cases hbb : Nat.beq k i with
          | false => rfl
          | true => exact (hki (Nat.eq_of_beq_eq_true hbb)).elim
        rw [this, Bool.or_false] at hl
        rw [hdown k o' hk hl e he hb]; rfl
    have hmaskIn := down hops hmask hdown i o ho hready
    have tailBits : ∀ t, i = F.length + t → t < tl.length → ∀ j, j < i → inL listed j = true ∨ j ∈ zs := by
      intro t h2 h3 j hj
      have h4 := okTailZ_get htail t h3
      have h5 : (ms.getD (l.length + t) 0 ||| zm).testBit j = true := by
        rw [h4, Nat.testBit_two_pow_sub_one]
        exact decide_eq_true (by omega)
      rw [Nat.testBit_or, Bool.or_eq_true] at h5
      rcases h5 with h5 | h5
      · exact .inl (hmaskIn j (by rw [h2, hlen]; exact h5))
      · exact .inr (hzm j h5)
    -- one of the tail's
    have tailStep : ∀ t rest, (∀ j, inL listed j = true ↔ j < F.length + t) → tl.drop t = rest → t ≤ tl.length → wpListIn (Fr C.r) 0 P ops (PQ C K) rest a w → F.length ≤ i →
        wpOpIn (Fr C.r) 0 P ops (PQ C K) i (wpAnyIn (Fr C.r) 0 P .any ops (PQ C K) fuel (listed.setIfInBounds i true)) a w := by
      intro t rest h2 h3 h4 h5 h6
      have hit : i = F.length + t := by
        have q1 : ¬ i < F.length + t := fun hc => by rw [(h2 i).2 hc] at hil; cases hil
        rcases Nat.eq_or_lt_of_le (Nat.le_of_not_lt q1) with q2 | q2
        · exact q2.symm
        · exfalso
          rcases tailBits (i - F.length) (by omega) (by omega) (F.length + t) q2 with this | this
          · have := (h2 _).1 this
            omega
          · have := hzk _ this
            omega
      have htl : t < tl.length := by omega
      have hrest : rest = o :: tl.drop (t + 1) := by
        rw [← h3, List.drop_eq_getElem_cons htl]
        congr 1
        have : (l ++ tl)[i]? = some o := by rw [hops] at ho; simpa using ho
        rw [hit, hlen, List.getElem?_append_right (by omega)] at this
        have e1 : l.length + t - l.length = t := by omega
        rw [e1, List.getElem?_eq_getElem htl] at this
        simpa using this
      rw [hrest] at h5
      have goon : ∀ a w, wpListIn (Fr C.r) 0 P ops (PQ C K) (tl.drop (t + 1)) a w → wpAnyIn (Fr C.r) 0 P .any ops (PQ C K) fuel (listed.setIfInBounds i true) a w := by
        intro a w hh
        refine ih _ a w hsz' hcount' hdown' (.inr ⟨t + 1, _, fun j => ?_, rfl, by omega, hh⟩)
        rw [hset, Bool.or_eq_true, h2 j]
        constructor
        · rintro (hj | hj)
          · omega
          · have := Nat.eq_of_beq_eq_true hj; omega
        · intro hj
          rcases Nat.lt_or_ge j (F.length + t) with h | h
          · exact .inl h
          · have : j = i := by omega
            subst this; exact .inr (by simp)
      unfold wpOpIn
      simp only [ho]
      simp only [wpListIn] at h5
      split
      · rename_i hw; rw [if_pos hw] at h5; exact Oper.wpIn_mono goon h5
      · rename_i hw; rw [if_neg hw] at h5; exact ⟨h5.1, goon _ _ h5.2⟩
    rcases hmid with ⟨h2, ρ, hs⟩ | ⟨t, rest, h2, h3, h4, h5⟩
    · rcases Nat.lt_or_ge i F.length with hiF | hiF
      · -- one of the growing part
        obtain ⟨newer, x, older, hF, hol⟩ : ∃ newer x older, F = newer ++ x :: older ∧ older.length = i := by
          have hd : F.drop (F.length - 1 - i) ≠ [] := by
            intro hc
            have := congrArg List.length hc
            simp at this
            omega
          obtain ⟨x, older, hxo⟩ := List.exists_cons_of_ne_nil hd
          refine ⟨F.take (F.length - 1 - i), x, older, by rw [← hxo]; exact (List.take_append_drop _ _).symm, ?_⟩
          have := congrArg List.length hxo
          simp at this
          omega
        obtain ⟨m, o', g1, g2, g3, g4, g5⟩ := hstep newer x older hF
        rw [hol] at g1 g2 g3
        have hoo : o' = o := by
          have q1 : (l ++ tl)[i]? = some o := by rw [hops] at ho; simpa using ho
          rw [List.getElem?_append_left (by omega), g2] at q1
          simpa using q1
        subst hoo
        have hmm : ms.getD i 0 = m := by simp [List.getD, g1]
        -- the mask, cut to what lies ahead
        have hq : ∀ j, bitOn m j = true → inL listed j = true := fun j hj => hmaskIn j (by rw [hmm, ← bitOn_test]; exact hj)
        have hcut : ∀ y ∈ newer ++ [x], bitOn m y.j = false := by
          intro y hy
          cases hb : bitOn m y.j with
          | false => rfl
          | true =>
            exfalso
            -- a bit at or past i: the mask's bits lie ahead of i
            have hbit : (ms.getD i 0).testBit y.j = true := by rw [hmm, ← bitOn_test]; exact hb
            have hless : ∀ (n : Nat), ∀ i, i ≤ n → ∀ (o : Oper), (l ++ tl)[i]? = some o → ∀ j, (ms.getD i 0).testBit j = true → j < i := by
              intro n
              induction n with
              | zero =>
                intro i hi o ho j hj
                obtain ⟨k1, k2⟩ := okMask_get hmask i o ho
                rw [Nat.zero_add] at k1 k2
                obtain ⟨e, he, hb2, _⟩ := maskUp_bit (k1 j hj)
                have := k2 e he hb2
                omega
              | succ n ihn =>
                intro i hi o ho j hj
                obtain ⟨k1, k2⟩ := okMask_get hmask i o ho
                rw [Nat.zero_add] at k1 k2
                obtain ⟨e, he, hb2, h3⟩ := maskUp_bit (k1 j hj)
                have hlt2 := k2 e he hb2
                rcases h3 with h3 | h3
                · omega
                · have hle : e.on < (l ++ tl).length := Nat.lt_trans hlt2 (List.getElem?_eq_some_iff.1 ho).1
                  have := ihn e.on (by omega) _ (List.getElem?_eq_getElem hle) j h3
                  omega
            have hlt2 := hless i i (Nat.le_refl _) o' (by rw [hops] at ho; simpa using ho) y.j hbit
            rcases List.mem_append.1 hy with hy | hy
            · have hf' : Fine e0 H0 (newer ++ x :: older) := hF ▸ hf
              have := hf'.new y hy
              omega
            · simp at hy; subst hy; omega
        have hdst : dstOK x.d C.nt = true := by rw [g4]; exact g5.dst
        have hFF : F = (newer ++ [x]) ++ older := by simp [hF]
        have hwe := weak_env hs hf hFF hq hcut
        have hws := weak_st hs hf hFF hq
        have goon : ∀ v w', (∃ ρ1, Rep ρ1 x.V v ∧ St ρ1 (heapR H0 (bitOn m) older ++ x.N) w' ∧ Ev (ρ.take (hl H0 older)) (heapR H0 (bitOn m) older) w ρ1 (heapR H0 (bitOn m) older ++ x.N) w') →
            wpAnyIn (Fr C.r) 0 P .any ops (PQ C K) fuel (listed.setIfInBounds i true) (a.put o'.dst v) w' := by
          rintro v w' ⟨ρ1, q1, q2, q3⟩
          have hset' : ∀ j, inL (listed.setIfInBounds i true) j = (inL listed j || Nat.beq j x.j) := fun j => by rw [hset, g3]
          obtain ⟨ρ', hs'⟩ := step_st hs hf hF hq hset' (by rw [g3]; exact hil) hdst q1 q2 q3
          rw [g4] at hs'
          refine ih _ _ _ hsz' hcount' hdown' (.inl ⟨fun j hj => ?_, ρ', hs'⟩)
          rw [hset, h2 j hj]
          have : Nat.beq j i = false := by
            cases hbb : Nat.beq j i with
            | false => rfl
            | true => have := Nat.eq_of_beq_eq_true hbb; omega
          rw [this]; rfl
        unfold wpOpIn
        simp only [ho]
        rcases g5.does with ⟨w1, w2⟩ | ⟨w1, w2, w3⟩
        · rw [w1.eq hwe hs.sz]
          simp only [if_true]
          refine w2.wp' hwe hws ?_
          rintro v w' ⟨ρ1, s, H1, q1, q2, q3, rfl, rfl⟩
          exact goon v w' ⟨ρ1, q1, q2, q3⟩
        · rw [w1.eq hwe hs.sz]
          simp only [Bool.false_eq_true, if_false]
          refine ⟨fun _ _ => trivial, goon undef w ⟨ρ.take (hl H0 older), ?_, ?_, ?_⟩⟩
          · rw [w2]; simp only [Rep]
          · rw [w3, List.append_nil]; exact hws
          · rw [w3, List.append_nil]; exact Ev.refl _ _ _
      · -- the first of the tail
        by_cases hun : zs.filter (fun j => !inL listed j) = []
        · have hall : ∀ j, inL listed j = true ↔ j < F.length + 0 := by
            intro j
            constructor
            · intro hj
              rcases Nat.lt_or_ge j F.length with h | h
              · omega
              · rw [h2 j h] at hj; cases hj
            · intro hj
              rcases tailBits (i - F.length) (by omega) (by omega) j (by omega) with h | h
              · exact h
              · have := (List.filter_eq_nil_iff.1 hun) j h
                simpa using this
          exact tailStep 0 tl hall rfl (by omega) (turn listed a w (by simpa using hall) ⟨ρ, hs⟩) hiF
        · -- some come late
          have hX := hlate _ hun List.filter_sublist
          have hoff : ∀ j, j < F.length → inL listed j = !(zs.filter (fun j => !inL listed j)).elem j := by
            intro j hj
            cases hlj : inL listed j with
            | true =>
              have : ¬ j ∈ zs.filter (fun j => !inL listed j) := fun hc => by
                have := (List.mem_filter.1 hc).2
                rw [hlj] at this; cases this
              simp [this]
            | false =>
              rcases tailBits (i - F.length) (by omega) (by omega) j (by omega) with h | h
              · rw [hlj] at h; cases h
              · have : j ∈ zs.filter (fun j => !inL listed j) := List.mem_filter.2 ⟨h, by rw [hlj]; rfl⟩
                simp [this]
          have hlisted : listed = offL ops.size F.length (zs.filter (fun j => !inL listed j)) := by
            apply Array.ext
            · simp [offL, hsz]
            · intro j hj1 hj2
              have e1 : listed[j] = inL listed j := by unfold inL; rw [Array.getD, dif_pos hj1]; rfl
              rw [e1]
              simp only [offL, List.getElem_toArray, List.getElem_map, List.getElem_range]
              rcases Nat.lt_or_ge j F.length with h | h
              · rw [hoff j h]; simp [h]
              · rw [h2 j h]
                have : Nat.blt j F.length = false := by
                  cases hb : Nat.blt j F.length with
                  | false => rfl
                  | true => have := blt_lt hb; omega
                rw [this]; rfl
          have hc : ∀ y ∈ F, inL listed y.j = (fun j => !(zs.filter (fun j => !inL listed j)).elem j) y.j := by
            intro y hy
            obtain ⟨s, t, hst⟩ := List.append_of_mem hy
            have := hf.idx s y t hst
            exact hoff y.j (by rw [this, hst]; simp; omega)
          have hat : At C (envR e0 (fun j => !(zs.filter (fun j => !inL listed j)).elem j) F) (heapR H0 (fun j => !(zs.filter (fun j => !inL listed j)).elem j) F) a w := by
            refine ⟨ρ, ?_, ?_, ?_, hs.sz, ?_⟩
            · rw [← envR_congr hc]; exact hs.env
            · rw [← heapR_congr hc]; exact hs.st
            · rw [← heapR_congr hc]; exact hs.ev
            · rw [← heapR_congr hc]; exact hs.df
          have hrun := hX a w hat
          rw [← hlisted] at hrun
          have hfuel : (zs.filter (fun j => !inL listed j)).length + tl.length = fuel + 1 := by
            have hone : (listed.toList.filter id).length + (zs.filter (fun j => !inL listed j)).length = F.length := by
              have h7 : listed.toList.filter id = (listed.toList.take F.length).filter id := by
                conv => lhs; rw [← List.take_append_drop F.length listed.toList]
                rw [List.filter_append]
                have : (listed.toList.drop F.length).filter id = [] := by
                  rw [List.filter_eq_nil_iff]
                  intro b hb
                  obtain ⟨j, hj, rfl⟩ := List.mem_iff_getElem.1 hb
                  rw [List.getElem_drop]
                  have h8 := h2 (F.length + j) (by omega)
                  unfold inL at h8
                  simp at hj
                  rw [Array.getD, dif_pos (by omega)] at h8
                  simp only [Array.getElem_toList]
                  intro h9
                  have h8' : listed[F.length + j] = false := h8
                  rw [h8'] at h9; cases h9
                rw [this, List.append_nil]
              rw [h7]
              have h10 : listed.toList.take F.length = (List.range F.length).map (inL listed) := by
                apply List.ext_getElem
                · simp; omega
                · intro j h11 h12
                  simp only [List.getElem_take, List.getElem_map, List.getElem_range, Array.getElem_toList]
                  unfold inL
                  rw [Array.getD, dif_pos (by simp at h11; omega)]; rfl
              rw [h10, List.filter_map, List.length_map]
              have h13 : ((List.range F.length).filter (fun j => !inL listed j)).length = (zs.filter (fun j => !inL listed j)).length := by
                apply List.Perm.length_eq
                rw [List.perm_ext_iff_of_nodup (List.nodup_range.filter _) (hnd.filter _)]
                intro j
                simp only [List.mem_filter, List.mem_range]
                constructor
                · rintro ⟨q1, q2⟩
                  rcases tailBits (i - F.length) (by omega) (by omega) j (by omega) with h | h
                  · rw [h] at q2; cases q2
                  · exact ⟨h, q2⟩
                · rintro ⟨q1, q2⟩
                  exact ⟨by rw [hlen]; exact hzk j q1, q2⟩
              rw [← h13]
              have h14 := List.length_eq_countP_add_countP (p := inL listed) (l := List.range F.length)
              rw [List.countP_eq_length_filter, List.countP_eq_length_filter, List.length_range] at h14
              have h15 : (List.range F.length).filter (fun a => decide ¬inL listed a = true) = (List.range F.length).filter (fun j => !inL listed j) := by
                apply List.filter_congr
                intro j _
                cases inL listed j <;> rfl
              rw [h15] at h14
              have h16 : (List.range F.length).filter (id ∘ inL listed) = (List.range F.length).filter (inL listed) := rfl
              rw [h16]; omega
            omega
          rw [hfuel] at hrun
          exact hrun.2 i (by rw [mem_ready]; exact ⟨h1, o, ho, hready⟩)
    · have hiF : F.length ≤ i := by
        rcases Nat.lt_or_ge i F.length with h | h
        · rw [(h2 i).2 (by omega)] at hil; cases hil
        · exact h
      exact tailStep t rest h2 h3 h4 h5 hiF
end

/-- A region's operations in any order that they may have. -/
def WA (P : Program) (C : Cx) (L : List Oper) (e : Env) (H : List SO) (K : Exit → Env → List SO → Prop) : Prop :=
  ∀ a w, At C e H a w → wpAnyIn (Fr C.r) 0 P .any L.toArray (PQ C K) L.toArray.size (Array.replicate L.toArray.size false) a w
theorem w_any {P : Program} {C : Cx} {e : Env} {H : List SO} {K : Exit → Env → List SO → Prop} {rid : Nat} {L : List Oper} (hm : P.follows .mixedOrders = true) (h : WA P C L e H K) : W P C (.region rid L.toArray true) e H K := fun a w hat => by
  obtain ⟨ρ, he, hs, hev, hsz, hdf⟩ := hat
  exact wpIn_region_any hm (h a _ ⟨ρ, he, hs.heap rfl, hev.trans (Ev.heap rfl rfl rfl rfl), hsz, hdf⟩)
theorem RAf.mono {P : Program} {C : Cx} {ops : Array Oper} {e0 : Env} {H0 : List SO} {Fin Fin' : List Oper → List Ent → Prop} (hh : ∀ l acc, Fin l acc → Fin' l acc) : ∀ {ms : List Nat} {l : List Oper} {acc : List Ent}, RAf P C ops e0 H0 Fin ms l acc → RAf P C ops e0 H0 Fin' ms l acc
  | [], l, acc, h => by
    have h' : Fin l acc := by cases l <;> exact h
    have := hh _ _ h'
    cases l <;> exact this
  | m :: ms, o :: l, acc, ⟨V, N, h1, h2⟩ => ⟨V, N, h1, RAf.mono hh h2⟩
  | _ :: _, [], _, h => h.elim
/-- The state at the start. -/
theorem sa_start {C : Cx} {e : Env} {H : List SO} (F : List Ent) {p : Nat → Bool} (hp : ∀ j, p j = false) {ρ : Rho} {a : Act} {w : World} (he : EnvOK ρ e a) (hs : St ρ H w) (hev : Ev C.ρ C.H C.w ρ H w) (hsz : a.tmps.size = C.nt) (hdf : Mk C ρ H w a.defers) (hC : C.ρ.length ≤ H.length) :
    SA C e H F p (ρ ++ List.replicate (hl H F - H.length) none) a w := by
  have hb := hl_base (H0 := H) F
  have envE : ∀ (G : List Ent), envR e p G = e := by
    intro G
    induction G with
    | nil => rfl
    | cons y G ih => simp only [envR_cons, hp, cond_false]; exact ih
  have heapE : ∀ (G : List Ent), ∃ k, heapR H p G = H ++ List.replicate k .dead := by
    intro G
    induction G with
    | nil => exact ⟨0, by simp [heapR]⟩
    | cons y G ih =>
      obtain ⟨k, hk⟩ := ih
      refine ⟨k + y.N.length, ?_⟩
      rw [heapR_cons, hp, cond_false, hk, List.append_assoc]
      congr 1
      rw [List.map_const', ← List.replicate_append_replicate]
  have low : ∀ o, o < H.length → (ρ ++ List.replicate (hl H F - H.length) none)[o]? = ρ[o]? := fun o ho => List.getElem?_append_left (by rw [hs.len]; exact ho)
  have high : ∀ (o : Nat) (io : Option Info), H.length ≤ o → (ρ ++ List.replicate (hl H F - H.length) none)[o]? = some io → io = none := by
    intro o io ho h
    rw [List.getElem?_append_right (by rw [hs.len]; exact ho), List.getElem?_replicate] at h
    split at h
    · simpa using h.symm
    · cases h
  obtain ⟨k, hk⟩ := heapE F
  have hget : ∀ (o : Nat) (z : SO), (heapR H p F)[o]? = some z → (o < H.length ∧ H[o]? = some z) ∨ (H.length ≤ o ∧ z = .dead) := by
    intro o z h
    rw [hk] at h
    rcases Nat.lt_or_ge o H.length with h1 | h1
    · rw [List.getElem?_append_left h1] at h; exact .inl ⟨h1, h⟩
    · rw [List.getElem?_append_right h1, List.getElem?_replicate] at h
      split at h
      · exact .inr ⟨h1, by simpa using h.symm⟩
      · cases h
  have nd : ∀ z : SO, z.own = true → z ≠ .dead := fun z hz e => by subst e; cases hz
  have back : ∀ (o : Nat) (I : Info) (z : SO), (ρ ++ List.replicate (hl H F - H.length) none)[o]? = some (some I) → (heapR H p F)[o]? = some z → z ≠ .dead → ρ[o]? = some (some I) ∧ H[o]? = some z := by
    intro o I z h1 h2 h3
    rcases hget o z h2 with ⟨h4, h5⟩ | ⟨h4, h5⟩
    · rw [low o h4] at h1; exact ⟨h1, h5⟩
    · exact (h3 h5).elim
  refine ⟨?_, ⟨?_, ?_, ?_, ?_⟩, ?_, hC, ⟨?_, hev.size, hev.os, hev.tape, hev.output, hev.block, ?_⟩, hsz, hdf.weak fun b hb => by
    obtain ⟨o, I, z, g1, g2, g3, g4⟩ := hb
    obtain ⟨r1, r2⟩ := back o I z g1 g2 (nd z g3)
    exact ⟨o, I, z, r1, r2, g3, g4⟩⟩
  · rw [envE]; exact he.ext (Ext.append _ _)
  · rw [heapR_len]; simp [hs.len]; omega
  · intro o z io hz hio
    rcases hget o z hz with ⟨h4, h5⟩ | ⟨h4, h5⟩
    · rw [low o h4] at hio
      exact (hs.ok o z io h5 hio).keep (Ext.append _ _) (Nat.le_refl _) (fun _ _ _ _ => rfl)
    · subst h5; trivial
  · intro o o' I I' z z' q1 q2 q3 q4 q5 q6 q7
    obtain ⟨r1, r2⟩ := back o I z q1 q3 (nd z q5)
    obtain ⟨r3, r4⟩ := back o' I' z' q2 q4 (nd z' q6)
    exact hs.inj o o' I I' z z' r1 r3 r2 r4 q5 q6 q7
  · intro o o' I I' z z' q1 q2 q3 q4 q5 q6 q7 q8
    obtain ⟨r1, r2⟩ := back o I z q1 q3 (nd z q5)
    obtain ⟨r3, r4⟩ := back o' I' z' q2 q4 (fun e => q7 e)
    exact hs.ro o o' I I' z z' r1 r3 r2 r4 q5 q6 q7 q8
  · intro o ho hm
    rcases Nat.lt_or_ge o H.length with h1 | h1
    · exfalso
      have gen : ∀ (G : List Ent), masked H p G o = false := by
        intro G
        induction G with
        | nil => rfl
        | cons y G ih => simp only [masked]; rw [if_pos (Nat.lt_of_lt_of_le h1 (hl_base G))]; exact ih
      rw [gen] at hm; cases hm
    · rw [List.getElem?_eq_getElem ho]
      have := high o _ h1 (List.getElem?_eq_getElem ho)
      rw [this]
  · exact hev.pre.trans (List.prefix_append _ _)
  · rintro b ⟨o, I, z, r1, r2, r3, r4⟩
    obtain ⟨k1, k2⟩ := back o I z r1 r2 (nd z r3)
    exact hev.own b ⟨o, I, z, k1, k2, r3, r4⟩
theorem wa_drawL {P : Program} {C : Cx} {e : Env} {H : List SO} {K : Exit → Env → List SO → Prop} {L : List Oper} (ms mt : List Nat) (hmask : okMask (ms ++ mt) 0 L = true) {zm : Nat} {zs : List Nat} (htail : okTailZ zm (ms ++ mt) ms.length mt.length = true) (hzm : ∀ j, zm.testBit j = true → j ∈ zs) (hzk : ∀ j ∈ zs, j < ms.length) (hnd : zs.Nodup) (hlen : L.length = ms.length + mt.length)
    (hE : inbE H.length e = true) (hH : inbH H.length H = true) (hC : C.ρ.length ≤ H.length) (h : RAf P C L.toArray e H (fun l acc => RW P C L.toArray l (envR e always acc) (heapR H always acc) K ∧ ∀ Z : List Nat, Z ≠ [] → Z.Sublist zs → LateX P C L.toArray e H K Z l acc) ms L []) : WA P C L e H K := by
  obtain ⟨h0, F, ⟨nw, hnw⟩, h4, h5, h6⟩ := RA_spec h
  intro a w hat
  obtain ⟨ρ, he, hs, hev, hsz, hdf⟩ := hat
  simp only [List.length_nil, Nat.zero_add, Nat.sub_zero, Nat.zero_le, true_implies] at h4 h5
  have ht : (L.take ms.length).length = ms.length := by simp; omega
  have hd : (L.drop ms.length).length = mt.length := by simp; omega
  have hstep : ∀ newer x older, F = newer ++ x :: older → ∃ m o, (ms ++ mt)[older.length]? = some m ∧ (L.take ms.length)[older.length]? = some o ∧ x.j = older.length ∧ x.d = o.dst ∧ Step P C L.toArray e H m o older x.V x.N := by
    intro newer x older hF
    obtain ⟨m, o, q1, q2, q3⟩ := h5 newer x older hF
    have hlt : older.length < ms.length := (List.getElem?_eq_some_iff.1 q1).1
    exact ⟨m, o, by rw [List.getElem?_append_left hlt]; exact q1, by rw [List.getElem?_take, if_pos hlt]; exact q2, q3⟩
  have hfine : Fine e H F := by
    refine ⟨fun newer x older hF => ?_, fun newer x older hF => ?_, fun newer x older hF => ?_, fun newer x older hF => ?_, fun newer x older hF => ?_, hE, hH⟩ <;> obtain ⟨m, o, q1, q2, q3, q4, q5⟩ := hstep newer x older hF
    · exact q3
    · rw [q4]; exact q5.fresh
    · rw [hl_cons]; exact q5.inbV
    · rw [hl_cons]; exact q5.inbN
    · exact q5.own
  refine any_sound (ms := ms ++ mt) (l := L.take ms.length) (tl := L.drop ms.length) (F := F) (e0 := e) (H0 := H) (by rw [List.take_append_drop]) (by rw [List.take_append_drop]; exact hmask) (by rw [ht, hd]; exact htail) hzm (by rw [ht]; exact hzk) hnd (by rw [ht, h4]) hfine
    hstep h6.1 h6.2 _ _ _ _ (by simp) ?_ ?_ (.inl ⟨fun i _ => ?_, ρ ++ List.replicate (hl H F - H.length) none, ?_⟩)
  · have : (Array.replicate L.toArray.size false).toList.filter id = [] := by simp
    rw [this]; simp
  · intro i o _ hi
    simp [inL, Array.getD_eq_getD_getElem?, Array.getElem?_replicate] at hi
    split at hi <;> simp at hi
  · simp [inL, Array.getD_eq_getD_getElem?, Array.getElem?_replicate]
    split <;> simp
  · have hp : ∀ j, inL (Array.replicate L.toArray.size false) j = false := by
      intro j
      simp [inL, Array.getD_eq_getD_getElem?, Array.getElem?_replicate]
      split <;> simp
    generalize inL (Array.replicate L.toArray.size false) = p at hp
    exact sa_start F hp he hs hev hsz hdf hC

theorem wa_draw {P : Program} {C : Cx} {e : Env} {H : List SO} {K : Exit → Env → List SO → Prop} {L : List Oper} (ms mt : List Nat) (hmask : okMask (ms ++ mt) 0 L = true) (htail : okTail (ms ++ mt) ms.length mt.length = true) (hlen : L.length = ms.length + mt.length)
    (hE : inbE H.length e = true) (hH : inbH H.length H = true) (hC : C.ρ.length ≤ H.length) (h : RA P C L.toArray e H K ms L []) : WA P C L e H K := by
  have hz : okTailZ 0 (ms ++ mt) ms.length mt.length = true := by
    have gen : ∀ n, okTail (ms ++ mt) ms.length n = true → okTailZ 0 (ms ++ mt) ms.length n = true := by
      intro n
      induction n with
      | zero => intro _; rfl
      | succ n ih =>
        intro h
        simp only [okTail, okTailZ, Bool.and_eq_true, Nat.or_zero] at h ⊢
        exact ⟨h.1, ih h.2⟩
    exact gen _ htail
  refine wa_drawL (zm := 0) (zs := []) ms mt hmask hz (fun j hj => by simp at hj) (fun j hj => by cases hj) List.nodup_nil hlen hE hH hC ?_
  refine RAf.mono ?_ h
  intro l acc hh
  exact ⟨hh, fun Z h1 h2 => (h1 (List.sublist_nil.1 h2)).elim⟩

theorem w_draw {P : Program} {C : Cx} {e : Env} {H : List SO} {K : Exit → Env → List SO → Prop} {rid : Nat} {L : List Oper} (hm : P.follows .mixedOrders = true) (ms mt : List Nat) (hmask : okMask (ms ++ mt) 0 L = true) (htail : okTail (ms ++ mt) ms.length mt.length = true) (hlen : L.length = ms.length + mt.length)
    (hE : inbE H.length e = true) (hH : inbH H.length H = true) (hC : C.ρ.length ≤ H.length) (h : RA P C L.toArray e H K ms L []) : W P C (.region rid L.toArray true) e H K :=
  w_any hm (wa_draw ms mt hmask htail hlen hE hH hC h)

/-! ### The rules for use -/
section use
variable {P : Program} {C : Cx} {e : Env} {H : List SO} {K : Exit → Env → List SO → Prop} {ops : Array Oper} {m : Nat} {ms : List Nat} {o : Oper} {l : List Oper} {acc : List Ent} {Fin : List Oper → List Ent → Prop}
theorem ra_done (h : RW P C ops l (envR e always acc) (heapR H always acc) K) : RA P C ops e H K [] l acc := by cases l <;> exact h
theorem ra_fin {Fin : List Oper → List Ent → Prop} (h : Fin l acc) : RAf P C ops e H Fin [] l acc := by cases l <;> exact h
/-- An operation that makes nothing. -/
theorem ra_q {V : SV} {j : Nat} (hg : o.guard = none) (hj : acc.length = j) (hd : dstOK o.dst C.nt = true) (hf : freshD (envR e always acc) o.dst)
    (h : OpDo P C.r o (envR e (bitOn m) acc) (heapR H (bitOn m) acc) fun s H' => s = V ∧ H' = heapR H (bitOn m) acc) (hb : V.inb (hl H acc) = true) (k : RAf P C ops e H Fin ms l (⟨j, o.dst, V, []⟩ :: acc)) : RAf P C ops e H Fin (m :: ms) (o :: l) acc := by
  subst hj
  exact ⟨V, [], ⟨hd, hf, by simpa using hb, rfl, rfl, .inl ⟨.inl ⟨hg, rfl⟩, h.mono fun s H' hh => ⟨hh.1, by rw [hh.2, List.append_nil]⟩⟩⟩, k⟩
/-- An operation that makes new objects. -/
theorem ra_n {V : SV} {N : List SO} {j : Nat} (hg : o.guard = none) (hj : acc.length = j) (hd : dstOK o.dst C.nt = true) (hf : freshD (envR e always acc) o.dst)
    (h : OpDo P C.r o (envR e (bitOn m) acc) (heapR H (bitOn m) acc) fun s H' => s = V ∧ H' = heapR H (bitOn m) acc ++ N) (hb : V.inb (hl H acc + N.length) = true) (hN : inbH (hl H acc + N.length) N = true) (hO : allOwn N = true)
    (k : RAf P C ops e H Fin ms l (⟨j, o.dst, V, N⟩ :: acc)) : RAf P C ops e H Fin (m :: ms) (o :: l) acc := by
  subst hj
  exact ⟨V, N, ⟨hd, hf, hb, hN, hO, .inl ⟨.inl ⟨hg, rfl⟩, h⟩⟩, k⟩
/-- A guarded operation that is wanted. -/
theorem ra_gt {V : SV} {j i gd : Nat} {want b : Bool} (hg : o.guard = some (i, want)) (hi : (ops[i]?).bind (·.dst) = some gd) (hv : (envR e (bitOn m) acc).get gd = some (.val (.bool b))) (hgd : Nat.blt gd C.nt = true) (hbw : b = want) (hj : acc.length = j) (hd : dstOK o.dst C.nt = true) (hf : freshD (envR e always acc) o.dst)
    (h : OpDo P C.r o (envR e (bitOn m) acc) (heapR H (bitOn m) acc) fun s H' => s = V ∧ H' = heapR H (bitOn m) acc) (hb : V.inb (hl H acc) = true) (k : RAf P C ops e H Fin ms l (⟨j, o.dst, V, []⟩ :: acc)) : RAf P C ops e H Fin (m :: ms) (o :: l) acc := by
  subst hj; subst hbw
  exact ⟨V, [], ⟨hd, hf, by simpa using hb, rfl, rfl, .inl ⟨.inr (.inl ⟨i, b, gd, b, hg, hi, hv, hgd, by simp⟩), h.mono fun s H' hh => ⟨hh.1, by rw [hh.2, List.append_nil]⟩⟩⟩, k⟩
/-- A guarded operation that is not wanted. -/
theorem ra_gf {j i gd : Nat} {want b : Bool} (hg : o.guard = some (i, want)) (hi : (ops[i]?).bind (·.dst) = some gd) (hv : (envR e (bitOn m) acc).get gd = some (.val (.bool b))) (hgd : Nat.blt gd C.nt = true) (hbw : b ≠ want) (hj : acc.length = j) (hd : dstOK o.dst C.nt = true) (hf : freshD (envR e always acc) o.dst)
    (k : RAf P C ops e H Fin ms l (⟨j, o.dst, .val undef, []⟩ :: acc)) : RAf P C ops e H Fin (m :: ms) (o :: l) acc := by
  subst hj
  exact ⟨.val undef, [], ⟨hd, hf, rfl, rfl, rfl, .inr ⟨.inr (.inl ⟨i, want, gd, b, hg, hi, hv, hgd, by simp [hbw]⟩), rfl, rfl⟩⟩, k⟩
/-- A guarded operation whose guard was not reached. -/
theorem ra_gu {j i gd : Nat} {want : Bool} (hg : o.guard = some (i, want)) (hi : (ops[i]?).bind (·.dst) = some gd) (hv : (envR e (bitOn m) acc).get gd = some (.val undef)) (hgd : Nat.blt gd C.nt = true) (hj : acc.length = j) (hd : dstOK o.dst C.nt = true) (hf : freshD (envR e always acc) o.dst)
    (k : RAf P C ops e H Fin ms l (⟨j, o.dst, .val undef, []⟩ :: acc)) : RAf P C ops e H Fin (m :: ms) (o :: l) acc := by
  subst hj
  exact ⟨.val undef, [], ⟨hd, hf, rfl, rfl, rfl, .inr ⟨.inr (.inr ⟨i, want, gd, hg, hi, hv, hgd, rfl⟩), rfl, rfl⟩⟩, k⟩
end use
end Go.Sx

set_option linter.unusedVariables false
set_option linter.unusedSimpArgs false
namespace Go.Sx
open Go Go.RowKit

section rules
variable {P : Program} {C : Cx} {e : Env} {H : List SO} {K : Exit → Env → List SO → Prop} {ops : Array Oper} {o : Oper} {rest : List Oper}

/-- One operation with a destination. -/
theorem rw_t (t : Nat) (hd : o.dst = some t) (hg : o.guard = none) (ht : Nat.blt t C.nt = true) (h : OpDo P C.r o e H fun s H' => RW P C ops rest ((t, s) :: e) H' K) : RW P C ops (o :: rest) e H K :=
  rw_cons hg (by rw [hd]; exact ht) (by rw [hd]; exact h)
/-- One without. -/
theorem rw_u (hd : o.dst = none) (hg : o.guard = none) (h : OpDo P C.r o e H fun s H' => RW P C ops rest e H' K) : RW P C ops (o :: rest) e H K :=
  rw_cons hg (by rw [hd]; rfl) (by rw [hd]; exact h)
/-- A guarded one that is wanted. -/
theorem rw_gt (t j gd : Nat) (want : Bool) {b : Bool} (hd : o.dst = some t) (hg : o.guard = some (j, want)) (hj : (ops[j]?).bind (·.dst) = some gd) (hb : e.get gd = some (.val (.bool b))) (hgd : Nat.blt gd C.nt = true) (ht : Nat.blt t C.nt = true) (hbw : b = want)
    (h : OpDo P C.r o e H fun s H' => RW P C ops rest ((t, s) :: e) H' K) : RW P C ops (o :: rest) e H K :=
  rw_guard hg hj hb hgd (by rw [hd]; exact ht) (fun _ => by rw [hd]; exact h) (fun hc => (hc hbw).elim)
/-- A guarded one that is not. -/
theorem rw_gf (t j gd : Nat) (want : Bool) {b : Bool} (hd : o.dst = some t) (hg : o.guard = some (j, want)) (hj : (ops[j]?).bind (·.dst) = some gd) (hb : e.get gd = some (.val (.bool b))) (hgd : Nat.blt gd C.nt = true) (ht : Nat.blt t C.nt = true) (hbw : b ≠ want)
    (h : RW P C ops rest ((t, .val undef) :: e) H K) : RW P C ops (o :: rest) e H K :=
  rw_guard hg hj hb hgd (by rw [hd]; exact ht) (fun hc => (hbw hc).elim) (fun _ => by rw [hd]; exact h)

/-- A state said in between: the way on is walked once. -/
def Md (M : Env → List SO → Prop) (K : Exit → Env → List SO → Prop) : Exit → Env → List SO → Prop
  | .normal, e, H => M e H
  | x, e, H => K x e H
/-- A new name for an empty row that lies nowhere. -/
theorem w_ghost {c : Code} {α : Type} {sz : Nat} {enc : α → List Value} {dd : α} (k1 : ∀ x, (enc x).length = sz) (k2 : ∀ x, ∀ v ∈ enc x, v.oneCell' = true) (h : W P C c e (H ++ [.arr α true sz enc dd []]) K) : W P C c e H K := fun a w hat => by
  obtain ⟨ρ, he, hs, hev, q1, q2⟩ := hat
  have h1 : St (ρ ++ [none]) (H ++ [.arr α true sz enc dd []]) w := hs.snoc rfl (by simp only [okO]; exact ⟨k1, k2, .inl (by trivial), fun I hI => by cases hI⟩) (fun I hI => by cases hI)
  have hown : ∀ b, OwnB (ρ ++ [none]) (H ++ [.arr α true sz enc dd []]) b → OwnB ρ H b := fun b hb => by
    obtain ⟨o, I, x, h1, h2, h3, h4⟩ := hb
    rcases get_snoc h1 with ⟨a1, a2⟩ | ⟨a1, a2⟩
    · rcases get_snoc h2 with ⟨b1, b2⟩ | ⟨b1, b2⟩
      · exact ⟨o, I, x, a2, b2, h3, h4⟩
      · have := hs.len; omega
    · cases a2
  refine h a w ⟨ρ ++ [none], he.ext (Ext.append _ _), h1, hev.trans ⟨List.prefix_append _ _, Nat.le_refl _, rfl, rfl, rfl, fun _ _ _ => rfl, fun b hb => .inl (hown b hb)⟩, q1, q2.weak hown⟩
theorem nil_slc {ρ : Rho} {v : Value} {o off : Nat} (h : Rep ρ (.val (.slice none 0 0)) v) : Rep ρ (.slc o off 0 none) v := by
  simp only [Rep] at h ⊢
  exact .inr ⟨by simp, ⟨none, h⟩, fun k hk => by cases hk⟩
/-- Nil, seen as an empty piece of any row: in the environment, or in a box. -/
theorem w_nilE {c : Code} (t o off : Nat) (ht : e.get t = some (.val (.slice none 0 0))) (h : W P C c ((t, .slc o off 0 none) :: e) H K) : W P C c e H K := fun a w hat => by
  obtain ⟨ρ, he, hs, hev, q1, q2⟩ := hat
  refine h a w ⟨ρ, fun u s hu => ?_, hs, hev, q1, q2⟩
  rw [Env.get_cons] at hu
  split at hu
  · rename_i hut
    subst hut
    simp only [Option.some.injEq] at hu
    subst hu
    exact nil_slc (he _ _ ht)
  · exact he u s hu
theorem w_nilB {c : Code} (b f o off : Nat) {cs : List SV} (hb : H[b]? = some (.box cs)) (hf : cs[f]? = some (.val (.slice none 0 0))) (h : W P C c e (H.set b (.box (cs.set f (.slc o off 0 none)))) K) : W P C c e H K := fun a w hat => by
  obtain ⟨ρ, he, hs, hev, q1, q2⟩ := hat
  have hst : St ρ (H.set b (.box (cs.set f (.slc o off 0 none)))) w := by
    refine ⟨by simp [hs.len], fun i x io hx hio => ?_, fun i i' I I' x x' r1 r2 r3 r4 r5 r6 r7 => ?_, fun i i' I I' x x' r1 r2 r3 r4 r5 r6 r7 r8 => ?_⟩
    · rcases get_set hx with ⟨r1, r2, r3⟩ | ⟨r1, r2⟩
      · subst r1; subst r2
        have hk := hs.ok i _ io hb hio
        simp only [okO] at hk ⊢
        obtain ⟨I, vs, tt, h1, h2, h3, h4, h5⟩ := hk
        refine ⟨I, vs, tt, h1, h2, h3, h4, ?_⟩
        obtain ⟨v, h6, h7⟩ := h5.get f _ hf
        have h8 := h5.set f (nil_slc (o := o) (off := off) h7)
        have h9 : vs.toList.set f v = vs.toList := by
          apply List.ext_getElem?
          intro k
          rw [List.getElem?_set]
          split
          · rename_i hkf
            subst hkf
            split
            · exact h6.symm
            · rename_i hlt; rw [List.getElem?_eq_none (by omega)]
          · rfl
        rwa [h9] at h8
      · exact hs.ok i x io r2 hio
    · have back : ∀ (i : Nat) (x : SO), (H.set b (.box (cs.set f (.slc o off 0 none))))[i]? = some x → x.own = true → ∃ y, H[i]? = some y ∧ y.own = true := by
        intro i x hx hown
        rcases get_set hx with ⟨q1, q2, q3⟩ | ⟨q1, q2⟩
        · subst q1; exact ⟨_, hb, rfl⟩
        · exact ⟨x, q2, hown⟩
      obtain ⟨y, y1, y2⟩ := back i x r3 r5
      obtain ⟨y', y1', y2'⟩ := back i' x' r4 r6
      exact hs.inj i i' I I' y y' r1 r2 y1 y1' y2 y2' r7
    · have back : ∀ (i : Nat) (x : SO), (H.set b (.box (cs.set f (.slc o off 0 none))))[i]? = some x → x.own = true → ∃ y, H[i]? = some y ∧ y.own = true := by
        intro i x hx hown
        rcases get_set hx with ⟨q1, q2, q3⟩ | ⟨q1, q2⟩
        · subst q1; exact ⟨_, hb, rfl⟩
        · exact ⟨x, q2, hown⟩
      obtain ⟨y, y1, y2⟩ := back i x r3 r5
      rcases get_set r4 with ⟨q1, q2, q3⟩ | ⟨q1, q2⟩
      · subst q2; cases r6
      · exact hs.ro i i' I I' y x' r1 r2 y1 q2 y2 r6 r7 r8
  have hown : ∀ b', OwnB ρ (H.set b (SO.box (cs.set f (SV.slc o off 0 none)))) b' → OwnB ρ H b' := fun b' hb' => by
    obtain ⟨i, I, x, h1, h2, h3, h4⟩ := hb'
    rcases get_set h2 with ⟨q1, q2, q3⟩ | ⟨q1, q2⟩
    · subst q1; exact ⟨i, I, _, h1, hb, rfl, h4⟩
    · exact ⟨i, I, x, h1, q2, h3, h4⟩
  refine h a w ⟨ρ, he, hst, ⟨hev.pre, hev.size, hev.os, hev.tape, hev.output, hev.block, fun b' hb' => hev.own b' (hown b' hb')⟩, q1, q2.weak hown⟩
end rules

section ops
variable {P : Program} {r : Option Nat} {d : Option Tmp} {t : TypeId} {ps : String} {af : Array Edge} {g : Option (Nat × Bool)} {e : Env} {H : List SO} {K : SV → List SO → Prop}

theorem in64 {k : Int} (h1 : -9223372036854775808 ≤ k) (h2 : k < 9223372036854775808) : IntKind.i64.wrap k = k := IntWalk.i64_in k ⟨h1, by omega⟩
/-- Sums, differences and products of int and int64 that stay within. -/
theorem do_add {xt yt : TypeId} {x y : Operand} {a b : Int} (hx : ev e x = some (.val (.int .i64 a))) (hy : ev e y = some (.val (.int .i64 b))) (h : -9223372036854775808 ≤ a + b ∧ a + b < 9223372036854775808) (k : K (.val (.int .i64 (a + b))) H) : OpDo P r ⟨d, .binOp .add xt x y yt, t, ps, af, g⟩ e H K :=
  do_bin hx hy rfl (by rw [in64 h.1 h.2]; exact k)
theorem do_sub {xt yt : TypeId} {x y : Operand} {a b : Int} (hx : ev e x = some (.val (.int .i64 a))) (hy : ev e y = some (.val (.int .i64 b))) (h : -9223372036854775808 ≤ a - b ∧ a - b < 9223372036854775808) (k : K (.val (.int .i64 (a - b))) H) : OpDo P r ⟨d, .binOp .sub xt x y yt, t, ps, af, g⟩ e H K :=
  do_bin hx hy rfl (by rw [in64 h.1 h.2]; exact k)
theorem do_mul {xt yt : TypeId} {x y : Operand} {a b : Int} (hx : ev e x = some (.val (.int .i64 a))) (hy : ev e y = some (.val (.int .i64 b))) (h : -9223372036854775808 ≤ a * b ∧ a * b < 9223372036854775808) (k : K (.val (.int .i64 (a * b))) H) : OpDo P r ⟨d, .binOp .mul xt x y yt, t, ps, af, g⟩ e H K :=
  do_bin hx hy rfl (by rw [in64 h.1 h.2]; exact k)
theorem do_neg64 {xt : TypeId} {x : Operand} {a : Int} (hx : ev e x = some (.val (.int .i64 a))) (h : -9223372036854775808 < a ∧ a ≤ 9223372036854775808) (k : K (.val (.int .i64 (-a))) H) : OpDo P r ⟨d, .unOp .neg xt x, t, ps, af, g⟩ e H K :=
  do_neg hx (by rw [in64 (by omega) (by omega)]; rw [Int.zero_sub]; exact k)
/-- The address of a place of a row. -/
theorem do_ix {s : TypeId} {x y : Operand} {el : TypeId} {n by_ o off len : Nat} {z : List Value} {cap : Option Nat} {i : Int} {α : Type} {own : Bool} {enc : α → List Value} {dd : α} {xs : List α} [hT : TySl P s el n by_ z] (hx : ev e x = some (.slc o off len cap)) (hy : ev e y = some (.val (.int .i64 i)))
    (ho : H[o]? = some (.arr α own n enc dd xs)) (h : 0 ≤ i ∧ i < len) (k : K (.ptr o (off + i.toNat) 0) H) : OpDo P r ⟨d, .indexAddr s x y, t, ps, af, g⟩ e H K :=
  do_indexaddr hx hy (fun α' own' sz enc' dd' xs' h' => by rw [ho] at h'; simp only [Option.some.injEq, SO.arr.injEq] at h'; exact h'.2.2.1.symm) ⟨_, _, _, _, _, _, ho⟩ h.1 h.2 k
/-- The same where the slice is a whole row. -/
theorem do_ix0 {s : TypeId} {x y : Operand} {el : TypeId} {n by_ o len : Nat} {z : List Value} {cap : Option Nat} {i : Int} {α : Type} {own : Bool} {enc : α → List Value} {dd : α} {xs : List α} [hT : TySl P s el n by_ z] (hx : ev e x = some (.slc o 0 len cap)) (hy : ev e y = some (.val (.int .i64 i)))
    (ho : H[o]? = some (.arr α own n enc dd xs)) (h : 0 ≤ i ∧ i < len) (k : K (.ptr o i.toNat 0) H) : OpDo P r ⟨d, .indexAddr s x y, t, ps, af, g⟩ e H K :=
  do_ix hx hy ho h (by rw [Nat.zero_add]; exact k)

theorem fill_congr {p q : Nat → Option (Nat × Nat)} : ∀ (l : List (Nat × Value)) (cells : Array Value), (∀ x ∈ l, p x.1 = q x.1) → Instr.fill p cells l = Instr.fill q cells l
  | [], _, _ => rfl
  | (i, v) :: l, cells, h => by
    have h1 := h (i, v) (by simp)
    simp only at h1
    simp only [Instr.fill, h1]
    split
    · rfl
    · split
      · rfl
      · exact fill_congr l _ (fun x hx => h x (by simp [hx]))

/-- A slice literal. -/
theorem do_bs {T el : TypeId} {n by_ len : Nat} {z : List Value} {parts : Array (Nat × Operand)} {pv : List (Nat × SV)} (α : Type) (enc : α → List Value) (dd : α) (xs : List α) [hT : TySl P T el n by_ z] (hp : evsI e parts.toList = some pv)
    (hf : fillSV ((List.range len).map fun i => (i * n, n)) (((List.range (len * n)).map fun j => z.getD (j % n) default).map .val) pv = some ((xs.flatMap enc).map .val)) (hlen : xs.length = len) (hidx : pv.all (fun p => Nat.blt p.1 len) = true) (hsmall : Nat.ble (len * n) 16777216 = true)
    (hsz : ∀ q, (enc q).length = n) (hone : ∀ q, ∀ v ∈ enc q, v.oneCell' = true)
    (k : K (.slc H.length 0 len (some len)) (H ++ [.arr α true n enc dd xs])) : OpDo P r ⟨d, .buildSlice T len parts, t, ps, af, g⟩ e H K := by
  refine ⟨by simp, fun ρ a w he hs => ?_⟩
  obtain ⟨t1, i, zv, t2, t3, t4, t5, t6, t7, t8⟩ := hT.out
  obtain ⟨h1, h2⟩ := he.evsI hp
  have hzc : ((Array.range (len * n)).map (zv.cells[· % zv.cells.size]!)) = ((List.range (len * n)).map fun j => z.getD (j % n) default).toArray := by
    apply Array.ext'
    simp only [Array.toList_map, Array.toList_range, t7, List.size_toArray, t8]
    apply List.map_congr_left
    intro j _
    rw [getElem!_def]
    simp [List.getD]
    cases z[j % n]? <;> rfl
  obtain ⟨ov, h3, h4⟩ := run_fill (places := (List.range len).map fun i => (i * n, n)) pv _ _ ((List.range (len * n)).map fun j => z.getD (j % n) default).toArray _ h1 h2 (reps_vals _) hf
  have hov : ov = (xs.flatMap enc).toArray := by
    apply Array.ext'
    have gen : ∀ (l : List Value) (m : List Value), Reps ρ (l.map .val) m → m = l := by
      intro l
      induction l with
      | nil => intro m hm; cases m with
        | nil => rfl
        | cons _ _ => simp [Reps] at hm
      | cons x l ih => intro m hm; cases m with
        | nil => simp [Reps] at hm
        | cons y m => simp only [List.map_cons, Reps, Rep] at hm; rw [hm.1, ih m hm.2]
    simpa using gen _ _ h4
  have hfl := flatMap_len hsz xs
  have hnew := hs.new (vs := (xs.flatMap enc).toArray) (t := el) (obj := .arr α true n enc dd xs) (sz := n) rfl (by
    simp only [okO]
    refine ⟨hsz, hone, .inr ⟨_, rfl⟩, fun I hI => ?_⟩
    simp only [Option.some.injEq] at hI
    subst hI
    refine ⟨rfl, by simp, ?_, fun _ => ⟨_, el, heap_alloc_new _ _, rfl⟩⟩
    refine Cells.of_flat hsz (by omega) fun j v hj => ?_
    rw [cell_at (heap_alloc_new _ _)]
    rw [Nat.zero_add]
    simpa using hj)
  have hrun : (Instr.buildSlice T len (parts.map fun (i, x) => (i, a.eval x))).run P w = .ok (.slice (some ⟨w.heap.size, 0, none⟩) len len) (w.alloc (.cells ov el)) := by
    have hsmall' : len * n ≤ 16777216 := by simpa using hsmall
    have hfill : Instr.fill (fun i => some (i * n, n)) ((List.range (len * n)).map fun j => z.getD (j % n) default).toArray (parts.map fun (i, x) => (i, a.eval x)).toList = some ov := by
      rw [← h3, Array.toList_map]
      refine fill_congr _ _ fun x hx => ?_
      have hx1 : x.1 ∈ pv.map (·.1) := by rw [h1]; exact List.mem_map.2 ⟨x, hx, rfl⟩
      obtain ⟨y, hy1, hy2⟩ := List.mem_map.1 hx1
      have hlt := blt_lt (List.all_eq_true.1 hidx y hy1)
      rw [hy2] at hlt
      simp [hlt]
    by_cases h0 : len * n = 0
    · have hl0 : len = 0 := by rcases Nat.mul_eq_zero.1 h0 with h | h; exact h; omega
      subst hl0
      have hcells : ((List.range (0 * n)).map fun j => z.getD (j % n) default).toArray = (#[] : Array Value) := by simp
      rw [hcells] at hfill
      simp [Instr.buildSlice, run_under t1, run_size t2, t3, newRow] at hfill ⊢
      have hr : ∀ f : Nat → Value, Array.map f (Array.range 0) = #[] := fun _ => by apply Array.ext'; simp
      rw [hr, hfill]
      rfl
    · have h16 : ¬ (16777216 < len * n) := by omega
      rw [← hzc] at hfill
      simp [Instr.buildSlice, run_under t1, run_size t2, t3, run_zero t2 t6, h0, h16, hsmall', newRow] at hfill ⊢
      simp [hfill]
  refine ⟨.value (.slice (some ⟨w.heap.size, 0, none⟩) len len), w.alloc (.cells ov el), ?_, _, _, _, ?_, by rw [hov]; exact hnew.1, by rw [hov]; exact hnew.2, k⟩
  · simp only [execOp, Sem.run_bind, hrun, Result.andThen_ok, Sem.run_pure]
  · simp only [Rep]
    refine .inl ⟨_, len, by rw [← hs.len]; exact getElem_snoc_len _ _, by simp, Nat.le_refl _, by simp [hfl, hlen], fun q hq => by simpa using hq⟩
end ops
end Go.Sx

set_option linter.unusedVariables false
set_option linter.unusedSimpArgs false
namespace Go.Sx
open Go Go.RowKit

section
variable {P : Program} {C : Cx} {e : Env} {H : List SO} {K : Exit → Env → List SO → Prop}

/-- What a round must reach: a later state of the family. -/
def Rd {ι : Type} (n : Nat) (E : ι → Env) (S : ι → List SO) (m : ι → Nat) (G : ι → Prop) (i : ι) (K : Exit → Env → List SO → Prop) : Exit → Env → List SO → Prop
  | .normal, e, H => ∃ (j : ι) (σ : List Nat), m j < m i ∧ G j ∧ ShH (nm σ H.length) H σ (S j) ∧ sep σ (owns (S j)) = true ∧ List.range n <+: σ ∧ ShE (nm σ H.length) e (E j)
  | x, e, H => K x e H

theorem w_loopS {c : Code} {ι : Type} (E : ι → Env) (S : ι → List SO) (m : ι → Nat) (G : ι → Prop) (i0 : ι) (σ : List Nat) (hG : G i0) (hH : ShH (nm σ H.length) H σ (S i0)) (hsep : sep σ (owns (S i0)) = true) (hm : List.range C.H.length <+: σ) (hlen : C.ρ.length = C.H.length) (hE : ShE (nm σ H.length) e (E i0))
    (round : ∀ i, G i → W P C c (E i) (S i) (Rd C.H.length E S m G i K)) : W P C (.loop c) e H K := by
  refine w_loop (fun n e H => ∃ i, m i = n ∧ G i ∧ ∃ σ, ShH (nm σ H.length) H σ (S i) ∧ sep σ (owns (S i)) = true ∧ List.range C.H.length <+: σ ∧ ShE (nm σ H.length) e (E i)) ⟨m i0, i0, rfl, hG, σ, hH, hsep, hm, hE⟩ ?_
  · rintro n e H ⟨i, rfl, hg, σ, h1, h2, h3, h4⟩
    refine w_shift σ h1 h2 h3 hlen h4 ?_
    refine (round i hg).mono fun x e2 H2 k => ?_
    cases x with
    | normal =>
      obtain ⟨j, σ2, k1, k2, k3, k4, k5, k6⟩ := k
      exact ⟨m j, k1, j, rfl, k2, σ2, k3, k4, k5, k6⟩
    | _ => exact k

/-- A state said in between, up to names. -/
def MdS {ι : Type} (n : Nat) (E : ι → Env) (S : ι → List SO) (G : ι → Prop) (K : Exit → Env → List SO → Prop) : Exit → Env → List SO → Prop
  | .normal, e, H => ∃ (j : ι) (σ : List Nat), G j ∧ ShH (nm σ H.length) H σ (S j) ∧ sep σ (owns (S j)) = true ∧ List.range n <+: σ ∧ ShE (nm σ H.length) e (E j)
  | x, e, H => K x e H
theorem w_midS {x y : Code} {ι : Type} (E : ι → Env) (S : ι → List SO) (G : ι → Prop) (hlen : C.ρ.length = C.H.length) (h1 : W P C x e H (MdS C.H.length E S G K)) (h2 : ∀ i, G i → W P C y (E i) (S i) K) : W P C (.seq x y) e H K :=
  w_seq (h1.mono fun ex e H k => by
    cases ex with
    | normal =>
      obtain ⟨j, σ, k1, k2, k3, k4, k5⟩ := k
      exact w_shift σ k2 k3 k4 hlen k5 (h2 j k1)
    | _ => exact k)

/-- The end of a function whose contract says the result and the heap outright. -/
theorem ret_eq {fn : Func} {n : Nat} {X : SV} {Y : List SO} {x : Exit} {ss : List SV} (hx : x = .ret ∨ x = .normal) (h1 : ResOK P e H fn.results.toList ss) (σ : List Nat) (h2 : resVal ss = X.ren (nm σ H.length)) (h3 : ShH (nm σ H.length) H σ Y) (h4 : sep σ (owns Y) = true) (h5 : List.range n <+: σ) :
    Ret P fn n (fun s H => s = X ∧ H = Y) x e H := ⟨hx, ss, h1, σ, Y, X, h2, h3, h4, h5, rfl, rfl⟩
end
def preB : Nat → Nat → List Nat → Bool
  | _, 0, _ => true
  | i, n + 1, o :: σ => Nat.beq o i && preB (i + 1) n σ
  | _, _ + 1, [] => false
theorem pre_ok {n : Nat} {σ : List Nat} (h : preB 0 n σ = true) : List.range n <+: σ := by
  have gen : ∀ (n i : Nat) (σ : List Nat), preB i n σ = true → List.range' i n <+: σ := by
    intro n
    induction n with
    | zero => intro i σ _; simp
    | succ n ih =>
      intro i σ h
      cases σ with
      | nil => cases h
      | cons o σ =>
        simp only [preB, Bool.and_eq_true] at h
        have := Nat.eq_of_beq_eq_true h.1
        subst this
        rw [List.range'_succ]
        exact List.cons_prefix_cons.2 ⟨rfl, ih _ _ h.2⟩
  rw [List.range_eq_range']
  exact gen n 0 σ h
theorem hle {ρ : Rho} {n m : Nat} (h : ρ.length = n) (h2 : Nat.ble n m = true) : ρ.length ≤ m := by rw [h]; simpa using h2
theorem val_congr {k : IntKind} {a b : Int} (h : a = b) : SV.val (.int k a) = SV.val (.int k b) := by rw [h]
theorem bool_congr {a b : Bool} (h : a = b) : SV.val (.bool a) = SV.val (.bool b) := by rw [h]
end Go.Sx

set_option linter.unusedVariables false
set_option linter.unusedSimpArgs false
namespace Go.Sx
open Go Go.RowKit
/-- Lengths. -/
theorem ls : (∀ (α : Type) (l m : List α), (l ++ m).length = l.length + m.length) ∧ (∀ (α : Type) (n : Nat) (a : α), (List.replicate n a).length = n) ∧ (∀ (α : Type) (l : List α) (i : Nat) (a : α), (l.set i a).length = l.length) ∧ (∀ (α β : Type) (f : α → β) (l : List α), (l.map f).length = l.length) ∧
    (∀ (α : Type), ([] : List α).length = 0) ∧ (∀ (α : Type) (a : α) (l : List α), (a :: l).length = l.length + 1) := by
  and_intros <;> intros <;> simp
/-- Booleans as propositions. -/
theorem bs : (∀ (p : Prop) [Decidable p], (decide p = true) = p) ∧ (∀ (p : Prop) [Decidable p], (decide p = false) = ¬ p) ∧ (∀ b : Bool, ((!b) = true) = (b = false)) ∧ (∀ b : Bool, ((!b) = false) = (b = true)) ∧
    (∀ a b : Int, ((a == b) = true) = (a = b)) ∧ (∀ a b : Int, ((a != b) = true) = ¬ (a = b)) ∧ (∀ a b : Int, ((a == b) = false) = ¬ (a = b)) ∧ (∀ a b : Int, ((a != b) = false) = (a = b)) ∧ (∀ a b : Int, (a ≠ b) = ¬ (a = b)) ∧
    (∀ b : Bool, (¬ b = true) = (b = false)) ∧ (∀ b : Bool, (¬ b = false) = (b = true)) ∧ (∀ (p : Prop) [Decidable p], (¬ ¬ p) = p) ∧ (∀ a b : Int, (a > b) = (b < a)) ∧ (∀ a b : Int, (a ≥ b) = (b ≤ a)) := by
  and_intros <;> intros <;> first | rfl | (simp; done) | (simp; omega)

section
variable {P : Program} {C : Cx} {e : Env} {H : List SO} {K : Exit → Env → List SO → Prop}

theorem rw_case {ops : Array Oper} {rest : List Oper} (gd : Nat) {b : Bool} (hb : e.get gd = some (.val (.bool b))) (ht : b = true → RW P C ops rest e H K) (hf : b = false → RW P C ops rest e H K) : RW P C ops rest e H K := by
  cases b with
  | true => exact ht rfl
  | false => exact hf rfl
theorem ra_case {Fin : List Oper → List Ent → Prop} {ops : Array Oper} {ms : List Nat} {l : List Oper} {acc : List Ent} (gd : Nat) {b : Bool} (hb : (envR e always acc).get gd = some (.val (.bool b))) (ht : b = true → RAf P C ops e H Fin ms l acc) (hf : b = false → RAf P C ops e H Fin ms l acc) : RAf P C ops e H Fin ms l acc := by
  cases b with
  | true => exact ht rfl
  | false => exact hf rfl

/-- Where a region that reckons a Boolean ends. -/
def BoolK (t : Nat) (e : Env) (H : List SO) (Q : Prop) : Exit → Env → List SO → Prop
  | .normal, e', H' => H' = H ∧ (∃ b, e'.get t = some (.val (.bool b)) ∧ (b = true ↔ Q)) ∧ ShE id e' e
  | _, _, _ => False
theorem svId : ∀ s : SV, s.ren id = s := by
  intro s
  refine SV.rec (motive_1 := fun s => s.ren id = s) (motive_2 := fun l => rens id l = l) ?_ ?_ ?_ ?_ ?_ ?_ ?_ ?_ ?_ ?_ ?_ s
  · intro x; rfl
  · intro o i f; rfl
  · intro o off len cap; rfl
  · intro f a b ha hb; simp only [SV.ren, ha, hb]
  · intro l h; simp only [SV.ren, h]
  · intro l h; simp only [SV.ren, h]
  · intro o; rfl
  · intro o; rfl
  · intro o; rfl
  · rfl
  · intro h t h1 h2; simp only [rens, h1, h2]
/-- A region that reckons a Boolean: what it says is all that is known behind it. -/
theorem w_seqB {x y : Code} (t : Nat) (Q : Prop) (h1 : W P C x e H (BoolK t e H Q)) (h2 : ∀ b, (b = true ↔ Q) → W P C y ((t, .val (.bool b)) :: e) H K) : W P C (.seq x y) e H K := fun a w hat => by
  refine wpIn_seq (wpIn_mono (h1 a w hat) ?_)
  rintro x a' w' ⟨e', H', k, ρ, he, hs, hev, q1, q2⟩
  cases x with
  | normal =>
    obtain ⟨rfl, ⟨b, hb, hbq⟩, hE⟩ := k
    refine h2 b hbq a' w' ⟨ρ, fun u s hu => ?_, hs, hev, q1, q2⟩
    rw [Env.get_cons] at hu
    split at hu
    · rename_i hut
      subst hut
      simp only [Option.some.injEq] at hu
      subst hu
      exact he _ _ hb
    · have := hE.get u s hu
      rw [svId] at this
      exact he u s this
  | _ => exact k.elim
/-- The same, where more is wanted behind it: nothing is dropped. -/
theorem w_condP {c : Operand} {x y : Code} {b : Bool} {Q : Prop} (hq : b = true ↔ Q) (hc : ev e c = some (.val (.bool b))) (ht : Q → W P C x e H K) (hf : ¬ Q → W P C y e H K) : W P C (.cond c x y) e H K :=
  w_cond hc (fun h => ht (hq.1 h)) (fun h => hf (fun hQ => by rw [hq.2 hQ] at h; cases h))
end

section
variable {P : Program} {r : Option Nat} {d : Option Tmp} {t : TypeId} {ps : String} {af : Array Edge} {g : Option (Nat × Bool)} {e : Env} {H : List SO} {K : SV → List SO → Prop}
/-- The address of a place of a whole row, by a natural number. -/
theorem do_ixn {s : TypeId} {x y : Operand} {el : TypeId} {n by_ o len i : Nat} {z : List Value} {cap : Option Nat} {α : Type} {own : Bool} {enc : α → List Value} {dd : α} {xs : List α} [hT : TySl P s el n by_ z] (hx : ev e x = some (.slc o 0 len cap)) (hy : ev e y = some (.val (.int .i64 ((i : Nat) : Int))))
    (ho : H[o]? = some (.arr α own n enc dd xs)) (h : i < len) (k : K (.ptr o i 0) H) : OpDo P r ⟨d, .indexAddr s x y, t, ps, af, g⟩ e H K :=
  do_ix hx hy ho (by omega) (by rw [Nat.zero_add, Int.toNat_natCast]; exact k)
/-- Is a slice nil? Of an empty one that is not known. -/
theorem do_slnil {T T' rt : TypeId} {x : Operand} {el : TypeId} {n by_ o off len : Nat} {z : List Value} {cap : Option Nat} [hT : TySl P T el n by_ z] (hx : ev e x = some (.slc o off len cap)) (k : ∀ b : Bool, (b = true → len = 0) → K (.val (.bool b)) H) :
    OpDo P r ⟨d, .binOp .eql T x (.const (.slice none 0 0)) T', t, ps, af, g⟩ e H K := by
  refine ⟨by simp, fun ρ a w he hs => ?_⟩
  have hv := he.ev hx
  have h2 : a.eval (.const (.slice none 0 0)) = .slice none 0 0 := rfl
  simp only [Rep] at hv
  obtain ⟨t1, _⟩ := hT.out
  have heq : ∀ (ad : Option Addr) (l c : Nat), (Op.equal T (.slice ad l c) (.slice none 0 0)).run P w = .ok ad.isNone w := by
    intro ad l c
    have gen : ∀ d, (Op.equalIn (d + 1) T (.slice ad l c) (.slice none 0 0)).run P w = .ok ad.isNone w := by
      intro d
      simp only [Op.equalIn, Sem.run_bind, run_under t1, Result.andThen_ok]
      cases ad <;> simp
    exact gen 9999
  rcases hv with ⟨I, c, h3, h4, h5⟩ | ⟨h3, ⟨ad, h4⟩, h5⟩
  · refine ⟨.value (.bool false), w, ?_, _, _, _, ?_, hs, Ev.refl _ _ _, k false (fun h => by cases h)⟩
    · simp [execOp, h4, h2, eqGuard, binOp, heq]
    · simp only [Rep]
  · refine ⟨.value (.bool ad.isNone), w, ?_, _, _, _, ?_, hs, Ev.refl _ _ _, k ad.isNone (fun h => h3)⟩
    · simp [execOp, h4, h2, eqGuard, binOp, heq]
    · simp only [Rep]
end
end Go.Sx
