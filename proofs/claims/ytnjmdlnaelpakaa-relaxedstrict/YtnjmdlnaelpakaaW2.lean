/- RelaxedStrict answers true for every input that can be read, and leaves the input as it was. Part 2. -/
import Derived.Test.YtnjmdlnaelpakaaW1
import Derived.RangeFuncRecord
import Derived.Test.YtnjmdlnaelpakaaProg
set_option linter.unusedVariables false
set_option linter.unusedSimpArgs false
set_option linter.unusedVariables false
namespace Go.Sx
open Go Go.RowKit

/-- A row that is only read is served by any. -/
theorem srv {α : Type} {own : Bool} {sz : Nat} {enc : α → List Value} {d : α} {xs : List α} : Serves (.arr α false sz enc d xs) (.arr α own sz enc d xs) := by
  cases own with
  | false => exact .inl rfl
  | true => exact .inr ⟨_, _, _, _, _, rfl, rfl⟩
def noOwn : List SO → Bool
  | [] => true
  | x :: l => !x.own && noOwn l
theorem upd_ro {f : Nat → Nat} : ∀ {σ : List Nat} {H0 N H : List SO}, noOwn H0 = true → σ.length = H0.length → upd f H σ H0 (H0 ++ N) = H ++ N.map (SO.ren f)
  | [], [], N, H, _, _ => by cases N <;> rfl
  | o :: σ, x :: H0, N, H, h, hl => by
    simp only [noOwn, Bool.and_eq_true, Bool.not_eq_true'] at h
    simp only [List.cons_append, upd, h.1, cond_false]
    exact upd_ro h.2 (by simpa using hl)
  | [], _ :: _, _, _, _, hl => by simp at hl
  | _ :: _, [], _, _, _, hl => by simp at hl
theorem okNew_ro : ∀ {H0 N : List SO}, noOwn H0 = true → allOwn N = true → okNew H0 (H0 ++ N)
  | [], N, _, h => by
    intro y hy
    obtain ⟨k, hk⟩ := List.mem_iff_getElem?.1 hy
    have : y = .dead ∨ y.own = true := by
      have gen : ∀ {N : List SO}, allOwn N = true → ∀ (k : Nat) (y : SO), N[k]? = some y → y = .dead ∨ y.own = true := by
        intro N
        induction N with
        | nil => intro _ k y h; simp at h
        | cons z N ih =>
          intro hb k y h
          cases k with
          | zero =>
            simp at h; subst h
            cases z with
            | dead => exact .inl rfl
            | box cs => exact .inr rfl
            | gen cs q => exact .inr rfl
            | arr α own sz enc d xs => simp only [allOwn, Bool.and_eq_true] at hb; exact .inr hb.1
          | succ k =>
            refine ih ?_ k y (by simpa using h)
            cases z with
            | dead => simpa [allOwn] using hb
            | box cs => simp only [allOwn, Bool.and_eq_true] at hb; exact hb.2
            | gen cs q => simp only [allOwn, Bool.and_eq_true] at hb; exact hb.2
            | arr α own sz enc d xs => simp only [allOwn, Bool.and_eq_true] at hb; exact hb.2
      exact gen h k y hk
    exact this.symm
  | x :: H0, N, h, hN => by
    simp only [noOwn, Bool.and_eq_true, Bool.not_eq_true'] at h
    simp only [List.cons_append, okNew]
    exact ⟨fun hc => absurd (h.1.symm.trans hc) (by simp), okNew_ro h.2 hN⟩
theorem clash_ff {a b : Option Bool} (ha : a ≠ some true) (hb : b ≠ some true) : clash a b = false := by
  cases a with
  | none => rfl
  | some a => cases b with
    | none => rfl
    | some b => cases a <;> cases b <;> simp_all [clash]
theorem noOwn_owns : ∀ {H : List SO}, noOwn H = true → ∀ b ∈ owns H, b ≠ some true
  | [], _, b, hb => by simp [owns] at hb
  | y :: H, hh, b, hb => by
    simp only [noOwn, Bool.and_eq_true, Bool.not_eq_true'] at hh
    simp only [owns, List.map_cons, List.mem_cons] at hb
    rcases hb with rfl | hb
    · intro hc
      have h1 := hh.1
      cases y <;> simp_all [ownD, SO.own]
    · exact noOwn_owns hh.2 b hb
theorem sep_ro : ∀ {σ : List Nat} {H0 : List SO}, noOwn H0 = true → σ.length = H0.length → sep σ (owns H0) = true
  | [], [], _, _ => rfl
  | o :: σ, x :: H0, h, hl => by
    have h0 := noOwn_owns h
    simp only [noOwn, Bool.and_eq_true, Bool.not_eq_true'] at h
    simp only [owns, List.map_cons, sep, Bool.and_eq_true, List.all_eq_true]
    refine ⟨fun p hp => ?_, sep_ro h.2 (by simpa using hl)⟩
    have h1 := (List.of_mem_zip hp).2
    rw [clash_ff (h0 _ (by simp [owns])) (h0 _ (by simp only [owns, List.map_cons, List.mem_cons]; exact .inr h1))]
    rfl
  | [], _ :: _, _, h => by simp at h
  | _ :: _, [], _, h => by simp at h
theorem rw_as {P : Program} {C : Cx} {ops : Array Oper} {rest : List Oper} {t : Nat} {s : SV} {e : Env} {H : List SO} {K : Exit → Env → List SO → Prop} (s' : SV) (h : s = s') (k : RW P C ops rest ((t, s') :: e) H K) : RW P C ops rest ((t, s) :: e) H K := h ▸ k
theorem allPlain {l : List SV} (h : l.all SV.plain = true) : ∀ s ∈ l, s.plain = true := List.all_eq_true.1 h
section call
variable {P : Program} {r : Option Nat} {d : Option Tmp} {t : TypeId} {ps : String} {af : Array Edge} {gd : Option (Nat × Bool)} {e : Env} {H : List SO} {K : SV → List SO → Prop}
/-- A call that only reads, and makes new objects N. -/
theorem do_callN {f : Operand} {args : Array Operand} {ats : Array TypeId} {g : FuncId} {fs cs ag args0 : List SV} {H0 N : List SO} {X : SV} [FnOK P g] (hf : ev e f = some (.func g fs cs)) (ha : evs e args.toList = some ag)
    (T : Tri P g args0 H0 fun s H1 => s = X ∧ H1 = H0 ++ N) (σ : List Nat) (hH : ShH (nm σ H.length) H σ H0) (hro : noOwn H0 = true) (hN : allOwn N = true) (hargs : fs ++ ag ++ cs = rens (nm σ H.length) args0)
    {X' : SV} {N' : List SO} (hX : X.ren (nm σ H.length) = X') (hN' : N.map (SO.ren (nm σ H.length)) = N') (k : K X' (H ++ N')) : OpDo P r ⟨d, .call ⟨.value f, args, ats⟩, t, ps, af, gd⟩ e H K := by
  refine do_call hf ha (T.frame σ hH (sep_ro hro hH.len) hargs ?_)
  rintro s H1 ⟨rfl, rfl⟩
  refine ⟨okNew_ro hro hN, ?_⟩
  rw [upd_ro hro hH.len, hX, hN']
  exact k
/-- A call that only reads, and makes nothing. -/
theorem do_callR {f : Operand} {args : Array Operand} {ats : Array TypeId} {g : FuncId} {fs cs ag args0 : List SV} {H0 : List SO} {X : SV} [FnOK P g] (hf : ev e f = some (.func g fs cs)) (ha : evs e args.toList = some ag)
    (T : Tri P g args0 H0 fun s H1 => s = X ∧ H1 = H0) (σ : List Nat) (hH : ShH (nm σ H.length) H σ H0) (hro : noOwn H0 = true) (hargs : fs ++ ag ++ cs = rens (nm σ H.length) args0)
    {X' : SV} (hX : X.ren (nm σ H.length) = X') (k : K X' H) : OpDo P r ⟨d, .call ⟨.value f, args, ats⟩, t, ps, af, gd⟩ e H K :=
  do_callN (N := []) (N' := []) hf ha (T.mono fun s H1 h => ⟨h.1, by rw [h.2, List.append_nil]⟩) σ hH hro rfl hargs hX rfl (by rw [List.append_nil]; exact k)
end call
end Go.Sx

set_option linter.unusedVariables false
namespace Go.Sx
open Go Go.RowKit
universe u

class LSet {α : Type u} (l : List α) (n : Nat) (x : α) (l' : outParam (List α)) : Prop where
  eq : l.set n x = l'
instance {α : Type u} {a x : α} {l : List α} : LSet (a :: l) 0 x (x :: l) := ⟨rfl⟩
instance {α : Type u} {a x : α} {l l' : List α} {n : Nat} [h : LSet l n x l'] : LSet (a :: l) (n + 1) x (a :: l') := ⟨by rw [List.set_cons_succ, h.eq]⟩
class LApp {α : Type u} (l m : List α) (l' : outParam (List α)) : Prop where
  eq : l ++ m = l'
instance {α : Type u} {m : List α} : LApp [] m m := ⟨rfl⟩
instance {α : Type u} {a : α} {l m l' : List α} [h : LApp l m l'] : LApp (a :: l) m (a :: l') := ⟨by rw [List.cons_append, h.eq]⟩

section ops
variable {P : Program} {r : Option Nat} {d : Option Tmp} {t : TypeId} {ps : String} {af : Array Edge} {g : Option (Nat × Bool)} {e : Env} {H H1 H' : List SO} {K : SV → List SO → Prop}

theorem n_store_box {T : TypeId} {x y : Operand} {o f : Nat} {cs cs' : List SV} {s : SV} [hT : TyOne P T] (hx : ev e x = some (.ptr o 0 f)) (hy : ev e y = some s) (ho : H[o]? = some (.box cs)) (hf : f < cs.length) (hp : s.plain = true)
    [h1 : LSet cs f s cs'] [h2 : LSet H o (.box cs') H'] (k : K (.val undef) H') : OpDo P r ⟨d, .store T x y, t, ps, af, g⟩ e H K :=
  do_store_box hx hy ho hf hp (by rw [h1.eq, h2.eq]; exact k)
theorem n_store_whole {T : TypeId} {x y : Operand} {o n : Nat} {cs l : List SV} [hT : TyAgg P T n] (hx : ev e x = some (.ptr o 0 0)) (hy : ev e y = some (.agg l)) (ho : H[o]? = some (.box cs)) (hl : cs.length = l.length) (hn : l.length = n)
    (hp : l.all SV.plain = true) [h2 : LSet H o (.box l) H'] (k : K (.val undef) H') : OpDo P r ⟨d, .store T x y, t, ps, af, g⟩ e H K :=
  do_store_boxagg hx hy ho (by omega) hn (allPlain hp) (by
    have : cs.take 0 ++ l ++ cs.drop (0 + l.length) = l := by rw [Nat.zero_add, ← hl]; simp
    rw [this, h2.eq]; exact k)
theorem n_store_arr {T : TypeId} {x y : Operand} {o i f : Nat} {α : Type} {sz : Nat} {enc : α → List Value} {dd : α} {xs : List α} {v : Value} {z : α} [hT : TyOne P T] (hx : ev e x = some (.ptr o i f)) (hy : ev e y = some (.val v)) (ho : H[o]? = some (.arr α true sz enc dd xs))
    (hi : i < xs.length) (hz : (enc (xs.getD i dd)).set f v = enc z) (hf : f < sz) (hp : v.oneCell' = true) [h2 : LSet H o (.arr α true sz enc dd (xs.set i z)) H'] (k : K (.val undef) H') : OpDo P r ⟨d, .store T x y, t, ps, af, g⟩ e H K :=
  do_store_arr hx hy ho hi hz hf hp (by rw [h2.eq]; exact k)
theorem n_box_agg {T : TypeId} {x : Operand} {l : List SV} {n : Nat} (hx : ev e x = some (.agg l)) (hn : H.length = n) [h2 : LApp H [.box l] H'] (k : K (.ptr n 0 0) H') : OpDo P r ⟨d, .box T x, t, ps, af, g⟩ e H K :=
  do_box hx (by rw [hn]; show K _ (H ++ [.box l]); rw [h2.eq]; exact k)
theorem n_box {T : TypeId} {x : Operand} {s : SV} {n : Nat} (hx : ev e x = some s) (hs : s.cells = [s]) (hn : H.length = n) [h2 : LApp H [.box [s]] H'] (k : K (.ptr n 0 0) H') : OpDo P r ⟨d, .box T x, t, ps, af, g⟩ e H K :=
  do_box hx (by rw [hn, hs, h2.eq]; exact k)
class TyZeroC (P : Program) (t : TypeId) (cs : outParam (List SV)) : Prop where
  out : ∃ z, TyZero P t z ∧ (SV.val z).cells = cs
theorem n_alloc {T : TypeId} {cs : List SV} {n : Nat} [hT : TyZeroC P T cs] (hn : H.length = n) [h2 : LApp H [.box cs] H'] (k : K (.ptr n 0 0) H') : OpDo P r ⟨d, .alloc T, t, ps, af, g⟩ e H K := by
  obtain ⟨z, h1, h3⟩ := hT.out
  exact do_alloc (hT := h1) (by rw [hn, h3, h2.eq]; exact k)
theorem n_make {T : TypeId} {x y : Operand} {el : TypeId} {n by_ nm : Nat} {z : List Value} {k0 k1 : IntKind} {c : Int} (α : Type) (enc : α → List Value) (dd : α) [hT : TySl P T el n by_ z] (hx : ev e x = some (.val (.int k0 c))) (hy : ev e y = some (.val (.int k1 c)))
    (hz : enc dd = z) (hsz : ∀ q, (enc q).length = n) (hone : ∀ q, ∀ v ∈ enc q, v.oneCell' = true) (h0 : 0 ≤ c) (hb : (by_ : Int) * c ≤ 281474976710656) (hc : c ≤ 9223372036854775807) (hn : H.length = nm)
    [h2 : LApp H [.arr α true n enc dd (List.replicate c.toNat dd)] H'] (k : K (.slc nm 0 c.toNat (some c.toNat)) H') : OpDo P r ⟨d, .makeSlice T x y, t, ps, af, g⟩ e H K :=
  do_make α enc dd hx hy hz hsz hone h0 hb hc (by rw [hn, h2.eq]; exact k)
theorem n_bs {T el : TypeId} {n by_ len nm : Nat} {z : List Value} {parts : Array (Nat × Operand)} {pv : List (Nat × SV)} (α : Type) (enc : α → List Value) (dd : α) (xs : List α) [hT : TySl P T el n by_ z] (hp : evsI e parts.toList = some pv)
    (hf : fillSV ((List.range len).map fun i => (i * n, n)) (((List.range (len * n)).map fun j => z.getD (j % n) default).map .val) pv = some ((xs.flatMap enc).map .val)) (hlen : xs.length = len) (hidx : pv.all (fun p => Nat.blt p.1 len) = true) (hsmall : Nat.ble (len * n) 16777216 = true)
    (hsz : ∀ q, (enc q).length = n) (hone : ∀ q, ∀ v ∈ enc q, v.oneCell' = true) (hn : H.length = nm)
    [h2 : LApp H [.arr α true n enc dd xs] H'] (k : K (.slc nm 0 len (some len)) H') : OpDo P r ⟨d, .buildSlice T len parts, t, ps, af, g⟩ e H K :=
  do_bs α enc dd xs hp hf hlen hidx hsmall hsz hone (by rw [hn, h2.eq]; exact k)
theorem n_append_own {T rt : TypeId} {x y : Operand} {el : TypeId} {n by_ nm : Nat} {z : List Value} {o off len o2 off2 len2 : Nat} {cap cap2 : Option Nat} [hT : TySl P T el n by_ z] (hx : ev e x = some (.slc o off len cap)) (hy : ev e y = some (.slc o2 off2 len2 cap2))
    {α : Type} {own2 : Bool} {sz : Nat} {enc : α → List Value} {dd dd2 : α} {xs ys : List α} (ho : H[o]? = some (.arr α true sz enc dd xs)) (ho2 : H[o2]? = some (.arr α own2 sz enc dd2 ys)) (hn : sz = n)
    (h1 : off + len ≤ xs.length) (h2 : off2 + len2 ≤ ys.length) (hb : (len + len2) * by_ ≤ 140737488355328) (h63 : ((len + len2 : Nat) : Int) ≤ 9223372036854775807) (hnm : H.length = nm)
    [g1 : LSet H o .dead H1] [g2 : LApp H1 [.arr α true sz enc dd (cut xs off len ++ cut ys off2 len2)] H'] (k : K (.slc nm 0 (len + len2) none) H') : OpDo P r ⟨d, .call ⟨.builtin .append, #[x, y], #[T, T]⟩, rt, ps, af, g⟩ e H K :=
  do_append_own hx hy ho ho2 hn h1 h2 hb h63 (by rw [hnm, g1.eq, g2.eq]; exact k)
theorem n_load_boxagg {T : TypeId} {x : Operand} {o f n : Nat} {cs : List SV} (l : List SV) [hT : TyAgg P T n] (hx : ev e x = some (.ptr o 0 f)) (ho : H[o]? = some (.box cs)) (hf : f + n ≤ cs.length) (hl : (cs.drop f).take n = l) (k : K (.agg l) H) :
    OpDo P r ⟨d, .load T x, t, ps, af, g⟩ e H K := do_load_boxagg hx ho hf (by rw [hl]; exact k)
theorem n_load_arragg {T : TypeId} {x : Operand} {o i n : Nat} {α : Type} {own : Bool} {sz : Nat} {enc : α → List Value} {dd : α} {xs : List α} (l : List SV) [hT : TyAgg P T n] (hx : ev e x = some (.ptr o i 0)) (ho : H[o]? = some (.arr α own sz enc dd xs))
    (hn : n = sz) (hi : i < xs.length) (hl : (enc (xs.getD i dd)).map .val = l) (k : K (.agg l) H) : OpDo P r ⟨d, .load T x, t, ps, af, g⟩ e H K := do_load_arragg hx ho hn hi (by rw [hl]; exact k)
theorem n_callN {f : Operand} {args : Array Operand} {ats : Array TypeId} {g0 : FuncId} {fs cs ag args0 : List SV} {H0 N : List SO} {X : SV} [FnOK P g0] (hf : ev e f = some (.func g0 fs cs)) (ha : evs e args.toList = some ag)
    (T : Tri P g0 args0 H0 fun s H1 => s = X ∧ H1 = H0 ++ N) (σ : List Nat) (hH : ShH (nm σ H.length) H σ H0) (hro : noOwn H0 = true) (hN : allOwn N = true) (hargs : fs ++ ag ++ cs = rens (nm σ H.length) args0)
    {X' : SV} {N' : List SO} (hX : X.ren (nm σ H.length) = X') (hN' : N.map (SO.ren (nm σ H.length)) = N') [h2 : LApp H N' H'] (k : K X' H') : OpDo P r ⟨d, .call ⟨.value f, args, ats⟩, t, ps, af, g⟩ e H K :=
  do_callN hf ha T σ hH hro hN hargs hX hN' (by rw [h2.eq]; exact k)

/-! In the growing part of a region that draws its order: the name given, the heap left as it is. -/
theorem g_alloc {T : TypeId} {cs : List SV} {n : Nat} [hT : TyZeroC P T cs] (hn : H.length = n) (k : K (.ptr n 0 0) (H ++ [.box cs])) : OpDo P r ⟨d, .alloc T, t, ps, af, g⟩ e H K := by
  obtain ⟨z, h1, h3⟩ := hT.out
  exact do_alloc (hT := h1) (by rw [hn, h3]; exact k)
theorem g_make {T : TypeId} {x y : Operand} {el : TypeId} {n by_ nm : Nat} {z : List Value} {k0 k1 : IntKind} {c : Int} (α : Type) (enc : α → List Value) (dd : α) [hT : TySl P T el n by_ z] (hx : ev e x = some (.val (.int k0 c))) (hy : ev e y = some (.val (.int k1 c)))
    (hz : enc dd = z) (hsz : ∀ q, (enc q).length = n) (hone : ∀ q, ∀ v ∈ enc q, v.oneCell' = true) (h0 : 0 ≤ c) (hb : (by_ : Int) * c ≤ 281474976710656) (hc : c ≤ 9223372036854775807) (hn : H.length = nm)
    (k : K (.slc nm 0 c.toNat (some c.toNat)) (H ++ [.arr α true n enc dd (List.replicate c.toNat dd)])) : OpDo P r ⟨d, .makeSlice T x y, t, ps, af, g⟩ e H K := do_make α enc dd hx hy hz hsz hone h0 hb hc (by rw [hn]; exact k)
theorem g_bs {T el : TypeId} {n by_ len nm : Nat} {z : List Value} {parts : Array (Nat × Operand)} {pv : List (Nat × SV)} (α : Type) (enc : α → List Value) (dd : α) (xs : List α) [hT : TySl P T el n by_ z] (hp : evsI e parts.toList = some pv)
    (hf : fillSV ((List.range len).map fun i => (i * n, n)) (((List.range (len * n)).map fun j => z.getD (j % n) default).map .val) pv = some ((xs.flatMap enc).map .val)) (hlen : xs.length = len) (hidx : pv.all (fun p => Nat.blt p.1 len) = true) (hsmall : Nat.ble (len * n) 16777216 = true)
    (hsz : ∀ q, (enc q).length = n) (hone : ∀ q, ∀ v ∈ enc q, v.oneCell' = true) (hn : H.length = nm)
    (k : K (.slc nm 0 len (some len)) (H ++ [.arr α true n enc dd xs])) : OpDo P r ⟨d, .buildSlice T len parts, t, ps, af, g⟩ e H K := do_bs α enc dd xs hp hf hlen hidx hsmall hsz hone (by rw [hn]; exact k)
def andI (k : IntKind) (x y : Int) : Int := k.wrap (BitVec.ofInt k.bits x &&& BitVec.ofInt k.bits y).toNat
theorem do_and {xt yt : TypeId} {x y : Operand} {k0 : IntKind} {a0 b0 : Int} (hx : ev e x = some (.val (.int k0 a0))) (hy : ev e y = some (.val (.int k0 b0))) (k : K (.val (.int k0 (andI k0 a0 b0))) H) : OpDo P r ⟨d, .binOp .and xt x y yt, t, ps, af, g⟩ e H K :=
  .pure (by simp) (fun ρ a w he hs => by
    have h1 := he.ev hx; have h2 := he.ev hy; simp only [Rep] at h1 h2
    exact ⟨.int k0 (andI k0 a0 b0), by simp [execOp, h1, h2, eqGuard, binOp, Op.intBits, andI], by simp only [Rep]⟩) k
end ops

section rules
variable {P : Program} {C : Cx} {e : Env} {H H1 H' : List SO} {K : Exit → Env → List SO → Prop}
theorem n_ghost {c : Code} (α : Type) (sz : Nat) (enc : α → List Value) (dd : α) (k1 : ∀ x, (enc x).length = sz) (k2 : ∀ x, ∀ v ∈ enc x, v.oneCell' = true) [h2 : LApp H [.arr α true sz enc dd []] H'] (h : W P C c e H' K) : W P C c e H K :=
  w_ghost k1 k2 (by rw [h2.eq]; exact h)
theorem n_nilB {c : Code} (b f o off : Nat) {cs cs' : List SV} (hb : H[b]? = some (.box cs)) (hf : cs[f]? = some (.val (.slice none 0 0))) [h1 : LSet cs f (.slc o off 0 none) cs'] [h2 : LSet H b (.box cs') H'] (h : W P C c e H' K) : W P C c e H K :=
  w_nilB b f o off hb hf (by rw [h1.eq, h2.eq]; exact h)
/-- What is known behind the growing part, written out. -/
class HR (H0 : List SO) (acc : List Ent) (H' : outParam (List SO)) : Prop where
  eq : heapR H0 always acc = H'
instance {H0 : List SO} : HR H0 [] H0 := ⟨rfl⟩
instance {H0 H' : List SO} {j : Nat} {d : Option Tmp} {V : SV} {acc : List Ent} [h : HR H0 acc H'] : HR H0 (⟨j, d, V, []⟩ :: acc) H' := ⟨h.eq⟩
instance {H0 H1 H' : List SO} {j : Nat} {d : Option Tmp} {V : SV} {acc : List Ent} {y : SO} {l : List SO} [h : HR H0 acc H1] [h2 : LApp H1 (y :: l) H'] : HR H0 (⟨j, d, V, y :: l⟩ :: acc) H' := ⟨by
  rw [← h2.eq, ← h.eq]; rfl⟩
class ER (e0 : Env) (acc : List Ent) (e' : outParam Env) : Prop where
  eq : envR e0 always acc = e'
instance {e0 : Env} : ER e0 [] e0 := ⟨rfl⟩
instance {e0 e' : Env} {j d : Nat} {V : SV} {N : List SO} {acc : List Ent} [h : ER e0 acc e'] : ER e0 (⟨j, some d, V, N⟩ :: acc) ((d, V) :: e') := ⟨by rw [← h.eq]; rfl⟩
theorem n_done {ops : Array Oper} {l : List Oper} {acc : List Ent} {e' : Env} [h1 : ER e acc e'] [h2 : HR H acc H'] (h : RW P C ops l e' H' K) : RA P C ops e H K [] l acc := ra_done (by rw [h1.eq, h2.eq]; exact h)

/-- A value of which less is said. -/
theorem rw_le {ops : Array Oper} {rest : List Oper} {t : Nat} {s : SV} (s' : SV) (hs : ∀ ρ v, Rep ρ s v → Rep ρ s' v) (k : RW P C ops rest ((t, s') :: e) H K) : RW P C ops rest ((t, s) :: e) H K := fun a w hat => by
  obtain ⟨ρ, he, h1, h2, q1, q2⟩ := hat
  refine k a w ⟨ρ, fun u v hu => ?_, h1, h2, q1, q2⟩
  rw [Env.get_cons] at hu
  split at hu
  · rename_i hut
    subst hut
    simp only [Option.some.injEq] at hu
    subst hu
    exact hs _ _ (he _ _ (by rw [Env.get_cons, if_pos rfl]))
  · rename_i hut
    exact he u v (by rw [Env.get_cons, if_neg hut]; exact hu)
theorem cap_none {o off len : Nat} {cap : Option Nat} (ρ : Rho) (v : Value) (h : Rep ρ (.slc o off len cap) v) : Rep ρ (.slc o off len none) v := by
  simp only [Rep] at h ⊢
  rcases h with ⟨I, c, h1, h2, h3, h4, h5⟩ | ⟨h1, h2, h3⟩
  · exact .inl ⟨I, c, h1, h2, h3, h4, fun k hk => by cases hk⟩
  · exact .inr ⟨h1, h2, fun k hk => by cases hk⟩
end rules
end Go.Sx

set_option linter.unusedVariables false
namespace Go.Sx
open Go Go.RowKit

theorem cons_congr {α : Type} {a b : α} {l m : List α} (h : a = b) (k : l = m) : a :: l = b :: m := by rw [h, k]
theorem box_congr {a b : List SV} (h : a = b) : SO.box a = SO.box b := by rw [h]
theorem cut_full {α : Type} {xs : List α} {n : Nat} (h : n = xs.length) : cut xs 0 n = xs := by subst h; simp [cut]
theorem okNew_tail {N : List SO} (h : allOwn N = true) : okNew [] N := okNew_ro (H0 := []) rfl h

section ops
variable {P : Program} {r : Option Nat} {d : Option Tmp} {t : TypeId} {ps : String} {af : Array Edge} {g : Option (Nat × Bool)} {e : Env} {H H1 H' : List SO} {K : SV → List SO → Prop}
theorem n_app_own {T rt : TypeId} {x y : Operand} {el : TypeId} {n by_ nm : Nat} {z : List Value} {o len o2 len2 : Nat} {cap cap2 : Option Nat} [hT : TySl P T el n by_ z] (hx : ev e x = some (.slc o 0 len cap)) (hy : ev e y = some (.slc o2 0 len2 cap2))
    {α : Type} {own2 : Bool} {sz : Nat} {enc : α → List Value} {dd dd2 : α} {xs ys : List α} (ho : H[o]? = some (.arr α true sz enc dd xs)) (ho2 : H[o2]? = some (.arr α own2 sz enc dd2 ys)) (hn : sz = n)
    (h1 : len = xs.length) (h2 : len2 = ys.length) (hb : (len + len2) * by_ ≤ 140737488355328) (h63 : ((len + len2 : Nat) : Int) ≤ 9223372036854775807) (hnm : H.length = nm)
    [g1 : LSet H o .dead H1] [g2 : LApp H1 [.arr α true sz enc dd (xs ++ ys)] H'] (k : K (.slc nm 0 (len + len2) none) H') : OpDo P r ⟨d, .call ⟨.builtin .append, #[x, y], #[T, T]⟩, rt, ps, af, g⟩ e H K :=
  do_append_own hx hy ho ho2 hn (by omega) (by omega) hb h63 (by rw [hnm, g1.eq, cut_full h1, cut_full h2, g2.eq]; exact k)
/-- A call that writes into what is the caller's own. -/
theorem n_callW {f : Operand} {args : Array Operand} {ats : Array TypeId} {g0 : FuncId} {fs cs ag args0 : List SV} {H0 Y : List SO} {X : SV} [FnOK P g0] (hf : ev e f = some (.func g0 fs cs)) (ha : evs e args.toList = some ag)
    (T : Tri P g0 args0 H0 fun s H1 => s = X ∧ H1 = Y) (σ : List Nat) (hH : ShH (nm σ H.length) H σ H0) (hsep : sep σ (owns H0) = true) (hargs : fs ++ ag ++ cs = rens (nm σ H.length) args0) (hok : okNew H0 Y)
    {X' : SV} {H' : List SO} (hX : X.ren (nm σ H.length) = X') (hH' : upd (nm σ H.length) H σ H0 Y = H') (k : K X' H') : OpDo P r ⟨d, .call ⟨.value f, args, ats⟩, t, ps, af, g⟩ e H K := by
  refine do_call hf ha (T.frame σ hH hsep hargs ?_)
  rintro s H1 ⟨rfl, rfl⟩
  exact ⟨hok, by rw [hX, hH']; exact k⟩
theorem g_callN {f : Operand} {args : Array Operand} {ats : Array TypeId} {g0 : FuncId} {fs cs ag args0 : List SV} {H0 N : List SO} {X : SV} [FnOK P g0] (hf : ev e f = some (.func g0 fs cs)) (ha : evs e args.toList = some ag)
    (T : Tri P g0 args0 H0 fun s H1 => s = X ∧ H1 = H0 ++ N) (σ : List Nat) (hH : ShH (nm σ H.length) H σ H0) (hro : noOwn H0 = true) (hN : allOwn N = true) (hargs : fs ++ ag ++ cs = rens (nm σ H.length) args0)
    {X' : SV} {N' : List SO} (hX : X.ren (nm σ H.length) = X') (hN' : N.map (SO.ren (nm σ H.length)) = N') (k : K X' (H ++ N')) : OpDo P r ⟨d, .call ⟨.value f, args, ats⟩, t, ps, af, g⟩ e H K :=
  do_callN hf ha T σ hH hro hN hargs hX hN' k
theorem do_shr1 {xt yt : TypeId} {x y : Operand} {k0 k1 : IntKind} {a0 : Int} (hx : ev e x = some (.val (.int k0 a0))) (hy : ev e y = some (.val (.int k1 1))) (h0 : 0 ≤ a0) (k : K (.val (.int k0 (a0 / 2))) H) :
    OpDo P r ⟨d, .binOp .shr xt x y yt, t, ps, af, g⟩ e H K :=
  .pure (by simp) (fun ρ a w he hs => by
    have h1 := he.ev hx; have h2 := he.ev hy; simp only [Rep] at h1 h2
    refine ⟨.int k0 (a0 / 2), ?_, by simp only [Rep]⟩
    have e1 : a0.fdiv 2 = a0 / 2 := (Int.fdiv_eq_ediv_of_nonneg a0 (by omega))
    have e2 : min 1 k0.bits = 1 := by cases k0 <;> rfl
    simp [execOp, h1, h2, eqGuard, binOp, Op.shift, e2, e1]) k
end ops
end Go.Sx

set_option linter.unusedVariables false
set_option linter.unusedSimpArgs false
namespace Go.Sx
open Go Go.RowKit

def mapQ (kk : IntKind) (keys : List Int) (vs : List Value) (ob : Obj) : Prop :=
  ∃ (es : Array MapEntry) (clock : Nat), ob = .map es clock ∧ es.toList.map (·.key) = keys.map (Value.int kk) ∧ es.toList.map (·.val) = vs
class TyMap (P : Program) (t : TypeId) (kk : outParam IntKind) (z : outParam Value) : Prop where
  out : ∃ k el, P.underlying t = some (.map k el) ∧ P.underlying k = some (.int kk) ∧ ∃ i, P.info? el = some i ∧ i.zero = some z

theorem findNow_int (kk : IntKind) (x : Int) : ∀ (es : List MapEntry) (keys : List Int) (i : Nat), es.map (·.key) = keys.map (Value.int kk) →
    Instr.findNow (.int kk) (.int kk x) es i = some (match keys.findIdx? (fun y => x == y) with | some j => (es[j]?).map fun e => (i + j, e.val) | none => none)
  | [], [], i, _ => rfl
  | e :: es, y :: keys, i, h => by
    simp only [List.map_cons, List.cons.injEq] at h
    have h1 := findNow_int kk x es keys (i + 1) h.2
    simp only [Instr.findNow, h.1, Instr.sameNow, if_true, List.findIdx?_cons]
    by_cases hxy : x = y
    · subst hxy
      simp
    · have hb : (x == y) = false := by simpa using hxy
      simp only [hb, h1, Bool.false_eq_true, if_false]
      cases List.findIdx? (fun y => x == y) keys with
      | none => rfl
      | some j =>
        simp only [Option.map_some, List.getElem?_cons_succ]
        have : i + 1 + j = i + (j + 1) := by omega
        rw [this]
  | [], _ :: _, _, h => by simp at h
  | _ :: _, [], _, h => by simp at h

section ops
variable {P : Program} {r : Option Nat} {d : Option Tmp} {t : TypeId} {ps : String} {af : Array Edge} {g : Option (Nat × Bool)} {e : Env} {H H1 H' : List SO} {K : SV → List SO → Prop}
theorem n_makeMap {T : TypeId} {n : Nat} (kk : IntKind) (hn : H.length = n) [h2 : LApp H [.gen [] (mapQ kk [])] H'] (k : K (.map n) H') : OpDo P r ⟨d, .makeMap T none, t, ps, af, g⟩ e H K := by
  refine ⟨by simp, fun ρ a w he hs => ?_⟩
  have hnew := hs.newG (ob := .map #[] 0) (obj := .gen [] (mapQ kk [])) (sz := 1) (n := 0) rfl (by
    simp only [okO]
    exact ⟨_, [], _, rfl, rfl, heap_alloc_new w _, ⟨⟨#[], 0, rfl, rfl, rfl⟩, fun x h => by cases h⟩, by simp only [Reps]⟩)
  refine ⟨.value (.map (some w.heap.size)), w.alloc (.map #[] 0), by simp [execOp, Instr.makeMap], _, .map n, _, ?_, hnew.1, hnew.2, ?_⟩
  · simp only [Rep]
    exact ⟨_, by rw [← hn, ← hs.len]; exact getElem_snoc_len _ _, rfl⟩
  · rw [h2.eq]; exact k

theorem St.genptr {ρ : Rho} {w : World} (hs : St ρ H w) {o : Nat} {cs : List SV} {q : List Value → Obj → Prop} {v : Value} (ho : H[o]? = some (.gen cs q)) (hv : Rep ρ (.map o) v) :
    ∃ I vs ob, ρ[o]? = some (some I) ∧ v = .map (some I.b) ∧ I.base = 0 ∧ w.heap[I.b]? = some ob ∧ q vs ob ∧ Reps ρ cs vs := by
  simp only [Rep] at hv
  obtain ⟨I, h1, h2⟩ := hv
  have hk := hs.ok o _ _ ho h1
  simp only [okO] at hk
  obtain ⟨I', vs, ob, h3, h4, h5, h6, h7⟩ := hk
  simp only [Option.some.injEq] at h3
  subst h3
  exact ⟨I, vs, ob, h1, h2, h4, h5, h6.1, h7⟩

theorem findKey_int {w : World} {k : TypeId} {kk : IntKind} (hk : P.underlying k = some (.int kk)) (x : Int) {es : Array MapEntry} {keys : List Int} (h : es.toList.map (·.key) = keys.map (Value.int kk)) :
    (Instr.findKey k (.int kk x) es.toList).run P w = .ok (match keys.findIdx? (fun y => x == y) with | some j => (es[j]?).map fun e => (j, e.val) | none => none) w := by
  have h1 := findNow_int kk x es.toList keys 0 h
  simp only [Instr.findKey, Sem.run_bind, run_under hk, Result.andThen_ok, h1, Sem.run_pure, Nat.zero_add, Array.getElem?_toList]
theorem checkKey_int {w : World} {k : TypeId} {kk : IntKind} (hk : P.underlying k = some (.int kk)) (b : Bool) (x : Int) : (Instr.checkKey b 10000 k (.int kk x)).run P w = .ok () w := by
  have gen : ∀ n, (Instr.checkKey b (n + 1) k (.int kk x)).run P w = .ok () w := fun n => by
    simp only [Instr.checkKey, Sem.run_bind, run_under hk, Result.andThen_ok, Sem.run_pure]
  exact gen 9999

/-- A new key. -/
theorem n_insert {T : TypeId} {m kx x : Operand} {o : Nat} {kk : IntKind} {z : Value} {n : Int} {keys keys' : List Int} {cs cs' : List SV} {s : SV} [hT : TyMap P T kk z] (hm : ev e m = some (.map o)) (hk : ev e kx = some (.val (.int kk n))) (hx : ev e x = some s)
    (ho : H[o]? = some (.gen cs (mapQ kk keys))) (hnew : keys.findIdx? (fun y => n == y) = none) [g0 : LApp keys [n] keys'] [g1 : LApp cs [s] cs'] [g2 : LSet H o (.gen cs' (mapQ kk keys')) H'] (k : K (.val undef) H') : OpDo P r ⟨d, .insert T m kx x, t, ps, af, g⟩ e H K := by
  refine ⟨by simp, fun ρ a w he hs => ?_⟩
  obtain ⟨I, vs, ob, h1, h2, h3, h4, ⟨es, clock, h5, h6, h7⟩, h8⟩ := hs.genptr ho (he.ev hm)
  subst h5
  have hkv := he.ev hk; simp only [Rep] at hkv
  have hxv := he.ev hx
  obtain ⟨kt, el, t1, t2, i, t3, t4⟩ := hT.out
  have hlt : I.b < w.heap.size := (Array.getElem?_eq_some_iff.1 h4).1
  have hput : ({ w with heap := w.heap.setIfInBounds I.b (.map (es.push { key := .int kk n, val := a.eval x, born := clock }) (clock + 1)) } : World).heap[I.b]? = some (.map (es.push { key := .int kk n, val := a.eval x, born := clock }) (clock + 1)) := by
    simp [Array.getElem?_setIfInBounds, hlt]
  have hoth : ∀ b, b ≠ I.b → ({ w with heap := w.heap.setIfInBounds I.b (.map (es.push { key := .int kk n, val := a.eval x, born := clock }) (clock + 1)) } : World).heap[b]? = w.heap[b]? := fun b hb => by
    simp [Array.getElem?_setIfInBounds, Ne.symm hb]
  refine ⟨.skip, { w with heap := w.heap.setIfInBounds I.b (.map (es.push { key := .int kk n, val := a.eval x, born := clock }) (clock + 1)) }, ?_, ρ, .val undef, _, by simp only [Rep], hs.put (x' := .gen cs' (mapQ kk keys')) h1 ho rfl (.inl rfl) hoth (by simp) ?_, Ev.put h1 ho rfl hoth (by simp) rfl rfl rfl, by rw [g2.eq]; exact k⟩
  · have hf := findKey_int (w := w) t2 n h6
    rw [hnew] at hf
    simp only at hf
    have hg : (getObj I.b).run P w = .ok (.map es clock) w := by simp [getObj, Sem.run, h4]
    have hset : (setObj I.b (.map (es.push { key := .int kk n, val := a.eval x, born := clock }) (clock + 1))).run P w = .ok () { w with heap := w.heap.setIfInBounds I.b (.map (es.push { key := .int kk n, val := a.eval x, born := clock }) (clock + 1)) } := by simp [setObj, Sem.run, h4]
    simp only [execOp, Instr.mapUpdate, Sem.run_bind, run_under t1, Result.andThen_ok, h2, hkv, hg, checkKey_int t2, hf, hset, Sem.run_pure]
  · simp only [okO]
    refine ⟨I, vs ++ [a.eval x], _, rfl, h3, hput, ⟨⟨_, _, rfl, ?_, ?_⟩, fun x h => by cases h⟩, ?_⟩
    · rw [← g0.eq]; simp [h6]
    · simp [h7]
    · rw [← g1.eq]
      exact h8.append (by simp only [Reps, and_true]; exact hxv)
/-- A look for a key that is known to be there, or not. -/
theorem do_lookup_t {T : TypeId} {m kx : Operand} {o j : Nat} {kk : IntKind} {z : Value} {n : Int} {keys : List Int} {cs : List SV} {s : SV} [hT : TyMap P T kk z] (hm : ev e m = some (.map o)) (hk : ev e kx = some (.val (.int kk n)))
    (ho : H[o]? = some (.gen cs (mapQ kk keys))) (hj : keys.findIdx? (fun y => n == y) = some j) (hs' : cs[j]? = some s) (k : K (.tup [s, .val (.bool true)]) H) : OpDo P r ⟨d, .lookup T m kx true, t, ps, af, g⟩ e H K :=
  .pure (by simp) (fun ρ a w he hs => by
    obtain ⟨I, vs, ob, h1, h2, h3, h4, ⟨es, clock, h5, h6, h7⟩, h8⟩ := hs.genptr ho (he.ev hm)
    subst h5
    have hkv := he.ev hk; simp only [Rep] at hkv
    obtain ⟨kt, el, t1, t2, i, t3, t4⟩ := hT.out
    have hg : (getObj I.b).run P w = .ok (.map es clock) w := by simp [getObj, Sem.run, h4]
    have hf := findKey_int (w := w) t2 n h6
    rw [hj] at hf
    simp only at hf
    obtain ⟨v, q1, q2⟩ := h8.get j s hs'
    rw [← h7, List.getElem?_map] at q1
    obtain ⟨en, q3, q4⟩ := Option.map_eq_some_iff.1 q1
    have q5 : es[j]? = some en := by simpa using q3
    rw [q5] at hf
    simp only [Option.map_some] at hf
    refine ⟨.tuple #[en.val, .bool true], ?_, ?_⟩
    · simp [execOp, Instr.lookup, run_under t1, Result.andThen_ok, h2, hkv, hg, checkKey_int t2, hf, Sem.run_pure]
    · simp only [Rep]
      refine ⟨_, rfl, ?_⟩
      simp only [Reps, and_true, Rep]
      exact q4 ▸ q2) k
theorem do_lookup_f {T : TypeId} {m kx : Operand} {o : Nat} {kk : IntKind} {z : Value} {n : Int} {keys : List Int} {cs : List SV} [hT : TyMap P T kk z] (hm : ev e m = some (.map o)) (hk : ev e kx = some (.val (.int kk n)))
    (ho : H[o]? = some (.gen cs (mapQ kk keys))) (hj : keys.findIdx? (fun y => n == y) = none) (k : K (.tup [.val z, .val (.bool false)]) H) : OpDo P r ⟨d, .lookup T m kx true, t, ps, af, g⟩ e H K :=
  .pure (by simp) (fun ρ a w he hs => by
    obtain ⟨I, vs, ob, h1, h2, h3, h4, ⟨es, clock, h5, h6, h7⟩, h8⟩ := hs.genptr ho (he.ev hm)
    subst h5
    have hkv := he.ev hk; simp only [Rep] at hkv
    obtain ⟨kt, el, t1, t2, i, t3, t4⟩ := hT.out
    have hg : (getObj I.b).run P w = .ok (.map es clock) w := by simp [getObj, Sem.run, h4]
    have hf := findKey_int (w := w) t2 n h6
    rw [hj] at hf
    simp only at hf
    refine ⟨.tuple #[z, .bool false], ?_, ?_⟩
    · simp [execOp, Instr.lookup, run_under t1, Result.andThen_ok, h2, hkv, hg, checkKey_int t2, hf, run_zero t3 t4, Sem.run_pure]
    · simp only [Rep]
      refine ⟨_, rfl, ?_⟩
      simp only [Reps, and_true, Rep]) k
end ops
section ops
variable {P : Program} {r : Option Nat} {d : Option Tmp} {t : TypeId} {ps : String} {af : Array Edge} {g : Option (Nat × Bool)} {e : Env} {H H1 H' : List SO} {K : SV → List SO → Prop}
theorem g_app_e {T rt : TypeId} {x y : Operand} {el : TypeId} {n by_ nm : Nat} {z : List Value} {o o2 len2 : Nat} {cap2 : Option Nat} [hT : TySl P T el n by_ z] (hx : ev e x = some (.slc o 0 0 (some 0))) (hy : ev e y = some (.slc o2 0 len2 cap2))
    {α : Type} {own own2 : Bool} {sz : Nat} {enc : α → List Value} {dd dd2 : α} {xs ys : List α} (ho : H[o]? = some (.arr α own sz enc dd xs)) (ho2 : H[o2]? = some (.arr α own2 sz enc dd2 ys)) (hn : sz = n)
    (h2 : len2 = ys.length) (hb : len2 * by_ ≤ 140737488355328) (h63 : ((len2 : Nat) : Int) ≤ 9223372036854775807) (hnm : H.length = nm)
    (k : K (.slc nm 0 len2 none) (H ++ [.arr α true sz enc dd ys])) : OpDo P r ⟨d, .call ⟨.builtin .append, #[x, y], #[T, T]⟩, rt, ps, af, g⟩ e H K :=
  do_append_new hx hy ho ho2 hn (by omega) (by omega) (.inl rfl) (by rw [Nat.zero_add]; exact hb) (by rw [Nat.zero_add]; exact h63) (by
    have e1 : cut xs 0 0 = [] := by simp [cut]
    rw [hnm, e1, cut_full h2, Nat.zero_add, List.nil_append]; exact k)
theorem n_app_e {T rt : TypeId} {x y : Operand} {el : TypeId} {n by_ nm : Nat} {z : List Value} {o o2 len2 : Nat} {cap2 : Option Nat} [hT : TySl P T el n by_ z] (hx : ev e x = some (.slc o 0 0 (some 0))) (hy : ev e y = some (.slc o2 0 len2 cap2))
    {α : Type} {own own2 : Bool} {sz : Nat} {enc : α → List Value} {dd dd2 : α} {xs ys : List α} (ho : H[o]? = some (.arr α own sz enc dd xs)) (ho2 : H[o2]? = some (.arr α own2 sz enc dd2 ys)) (hn : sz = n)
    (h2 : len2 = ys.length) (hb : len2 * by_ ≤ 140737488355328) (h63 : ((len2 : Nat) : Int) ≤ 9223372036854775807) (hnm : H.length = nm)
    [g2 : LApp H [.arr α true sz enc dd ys] H'] (k : K (.slc nm 0 len2 none) H') : OpDo P r ⟨d, .call ⟨.builtin .append, #[x, y], #[T, T]⟩, rt, ps, af, g⟩ e H K :=
  g_app_e hx hy ho ho2 hn h2 hb h63 hnm (by rw [g2.eq]; exact k)
end ops
section rules
variable {P : Program} {C : Cx} {e : Env} {H : List SO} {K : Exit → Env → List SO → Prop}
theorem rw_cap {ops : Array Oper} {rest : List Oper} (t : Nat) {o off len : Nat} {cap : Option Nat} (ht : e.get t = some (.slc o off len cap)) (k : RW P C ops rest ((t, .slc o off len none) :: e) H K) : RW P C ops rest e H K := fun a w hat => by
  obtain ⟨ρ, he, h1, h2, q1, q2⟩ := hat
  refine k a w ⟨ρ, fun u v hu => ?_, h1, h2, q1, q2⟩
  rw [Env.get_cons] at hu
  split at hu
  · rename_i hut
    subst hut
    simp only [Option.some.injEq] at hu
    subst hu
    exact cap_none ρ _ (he _ _ ht)
  · exact he u v hu
/-- What is forgotten. -/
theorem w_env {c : Code} (e' : Env) (h : ShE id e e') (k : W P C c e' H K) : W P C c e H K := fun a w hat => by
  obtain ⟨ρ, he, hs, hev, q1, q2⟩ := hat
  refine k a w ⟨ρ, fun u s hu => ?_, hs, hev, q1, q2⟩
  have := h.get u s hu
  rw [svId] at this
  exact he u s this
/-- A guarded operation whose guard was not reached. -/
theorem rw_gu {ops : Array Oper} {o : Oper} {rest : List Oper} (t j gd : Nat) (want : Bool) (hd : o.dst = some t) (hg : o.guard = some (j, want)) (hj : (ops[j]?).bind (·.dst) = some gd) (hb : e.get gd = some (.val undef)) (hgd : Nat.blt gd C.nt = true) (ht : Nat.blt t C.nt = true)
    (h : RW P C ops rest ((t, .val undef) :: e) H K) : RW P C ops (o :: rest) e H K := fun a w hat => by
  obtain ⟨ρ, he, hs, hev, hsz, hdf⟩ := hat
  have hv := he gd _ hb
  simp only [Rep] at hv
  have hlt : gd < a.tmps.size := by rw [hsz]; simpa using hgd
  have hy : yielded ops a.tmps j = none := by
    simp only [yielded, hj, Option.bind_some]
    rw [Array.getElem?_eq_getElem hlt]
    rw [Array.getD, dif_pos hlt] at hv
    have hv' : a.tmps[gd] = undef := hv
    rw [hv']; rfl
  simp only [wpListIn, Region.wanted, hg, hy]
  have : ((none : Option Bool) == some want) = false := rfl
  simp only [this, Bool.false_eq_true, if_false]
  refine ⟨fun _ _ => trivial, ?_⟩
  have hat' := at_put (d := o.dst) (v := undef) he hsz hdf hev (by rw [hd]; exact ht) (s := .val undef) (by simp only [Rep]) hs (Ev.refl _ _ _)
  rw [hd] at hat' ⊢
  exact h _ _ hat'
end rules
end Go.Sx

set_option linter.unusedVariables false
set_option linter.unusedSimpArgs false
namespace Go.Sx
open Go Go.RowKit

/-- Let the operations js wait for z too. -/
def addE (z : Nat) (js : List Nat) : Nat → List Oper → List Oper
  | _, [] => []
  | i, o :: l => (bif js.elem i then { o with after := o.after.push ⟨z, .data⟩ } else o) :: addE z js (i + 1) l
theorem addE_len (z : Nat) (js : List Nat) : ∀ (i : Nat) (l : List Oper), (addE z js i l).length = l.length
  | _, [] => rfl
  | i, o :: l => by simp [addE, addE_len z js (i + 1) l]
theorem addE_get (z : Nat) (js : List Nat) : ∀ (i : Nat) (l : List Oper) (k : Nat), (addE z js i l)[k]? = (l[k]?).map fun o => bif js.elem (i + k) then { o with after := o.after.push ⟨z, .data⟩ } else o
  | _, [], k => by simp [addE]
  | i, o :: l, 0 => by simp [addE]
  | i, o :: l, k + 1 => by
    simp only [addE, List.getElem?_cons_succ]
    rw [addE_get z js (i + 1) l k]
    have : i + 1 + k = i + (k + 1) := by omega
    rw [this]
/-- A part of a result, taken out. -/
def isExtract (o : Oper) : Bool := o.guard.isNone && (match o.op with | .extract _ _ => true | _ => false)
/-- May z be taken first, ahead of the operations js? -/
def okLate (z : Nat) (js : List Nat) (L : List Oper) : Bool :=
  match L[z]? with
  | some oz => isExtract oz && !js.elem z &&
    js.all (fun j => match L[j]? with | some oj => oz.after.toList.all (fun e => !Region.binds .any e || oj.after.toList.any (fun e' => Region.binds .any e' && Nat.beq e'.on e.on)) | none => false) &&
    (List.range L.length).all (fun j => match L[j]? with | some oj => Nat.beq j z || oj.after.toList.any (fun e => Region.binds .any e && Nat.beq e.on z) || oz.after.toList.any (fun e => Region.binds .any e && Nat.beq e.on j) || oz.apart L.toArray oj | none => true) &&
    Region.noSelect L.toArray
  | none => false

section
variable {P : Program} {F : Fence} {n : Nat} {Q : Exit → Act → World → Prop}
theorem same_op {z : Nat} {js : List Nat} {L : List Oper} {i : Nat} {K : Act → World → Prop} {a : Act} {w : World} (h : wpOpIn F n P (addE z js 0 L).toArray Q i K a w) : wpOpIn F n P L.toArray Q i K a w := by
  have hy : ∀ (t : Array Value) j, yielded (addE z js 0 L).toArray t j = yielded L.toArray t j := by
    intro t j
    simp only [yielded, List.getElem?_toArray, addE_get]
    cases L[j]? with
    | none => rfl
    | some o =>
      simp only [Option.map_some, Option.bind_some]
      cases List.elem (0 + j) js <;> rfl
  unfold wpOpIn at *
  simp only [List.getElem?_toArray, addE_get] at h ⊢
  cases ho : L[i]? with
  | none => rw [ho] at h; exact h
  | some o =>
    rw [ho] at h
    simp only [Option.map_some] at h ⊢
    have hw : ∀ (x : Oper), x.guard = o.guard → Region.wanted x (yielded (addE z js 0 L).toArray a.tmps) = Region.wanted o (yielded L.toArray a.tmps) := by
      intro x hx
      simp only [Region.wanted, hx]
      cases o.guard with
      | none => rfl
      | some g => simp only [hy]
    cases hj : List.elem (0 + i) js with
    | false =>
      rw [hj] at h
      simp only [cond_false] at h
      rw [hw o rfl] at h
      exact h
    | true =>
      rw [hj] at h
      simp only [cond_true] at h
      rw [hw { o with after := o.after.push ⟨z, .data⟩ } rfl] at h
      exact h

theorem extract_yields {ops : Array Oper} {o : Oper} (hex : isExtract o = true) (hr : F.round = none) {i : Nat} (hi : ops[i]? = some o) {K : Act → World → Prop} {a : Act} {w : World} (h : wpOpIn F n P ops Q i K a w) :
    ∃ v, YieldsFenced P ops o v a ∧ K (a.put o.dst v) w := by
  simp only [isExtract, Bool.and_eq_true, Option.isNone_iff_eq_none] at hex
  obtain ⟨hg, hop⟩ := hex
  have hw : ∀ t, Region.wanted o (yielded ops t) = true := fun t => by simp only [Region.wanted, hg]
  unfold wpOpIn at h
  rw [hi] at h
  simp only [hw, if_true] at h
  obtain ⟨_, h⟩ := h
  rw [hr, Oper.semAt_none] at h
  have hab : ∀ w, o.about P w a.eval = none := by
    intro w
    unfold Oper.about
    cases ho : o.op <;> simp only [ho] at hop ⊢
    all_goals first | rfl | cases hop
  cases ho : o.op with
  | extract x ix =>
    have hrun : ∀ w, (execOp a.eval o).run P w = ((Instr.extract (a.eval x) ix).run P w).andThen (fun v w => (Result.ok (Next.value v) w : Result Next)) := by
      intro w
      obtain ⟨d, op, t, ps, af, g⟩ := o
      simp only at ho
      subst ho
      simp only [execOp, Sem.run_bind]
      cases (Instr.extract (a.eval x) ix).run P w <;> simp [Result.andThen]
    rw [hrun] at h
    unfold Instr.extract at h hrun
    split at h
    · rename_i vs hvs
      split at h
      · rename_i v hv
        simp only [Sem.run_pure, Result.andThen_ok, Oper.uponIn] at h
        refine ⟨v, ⟨.inl ⟨hw _, fun w => ?_⟩, hab⟩, h⟩
        rw [hrun, hvs]
        simp only [hv, Sem.run_pure, Result.andThen_ok]
      · simp [stuck, Sem.run, Result.andThen, Oper.uponIn] at h
    · simp [stuck, Sem.run, Result.andThen, Oper.uponIn] at h
  | _ => rw [ho] at hop; cases hop

theorem late_sound {z : Nat} {js : List Nat} {L : List Oper} (hr : F.round = none) (hok : okLate z js L = true) (hQ : ∀ c a w, ¬ Q (.panic c) a w) :
    ∀ (fuel : Nat) (listed : Array Bool) (a : Act) (w : World), listed.size = L.length → wpAnyIn F n P .any (addE z js 0 L).toArray Q fuel listed a w → wpAnyIn F n P .any L.toArray Q fuel listed a w := by
  unfold okLate at hok
  cases hz : L[z]? with
  | none => rw [hz] at hok; cases hok
  | some oz =>
    rw [hz] at hok
    simp only [Bool.and_eq_true] at hok
    obtain ⟨⟨⟨⟨hex, hzj⟩, hdep⟩, hap⟩, hsel⟩ := hok
    have hzj' : List.elem z js = false := by simpa using hzj
    -- what is ready
    have back : ∀ (listed : Array Bool) (i : Nat), i ∈ Region.ready .any (addE z js 0 L).toArray listed → i ∈ Region.ready .any L.toArray listed := by
      intro listed i hi
      rw [mem_ready] at hi ⊢
      obtain ⟨h0, o, ho, hall⟩ := hi
      rw [List.getElem?_toArray, addE_get] at ho
      obtain ⟨o', ho', he⟩ := Option.map_eq_some_iff.1 ho
      refine ⟨h0, o', by rw [List.getElem?_toArray]; exact ho', fun e hem hb => hall e ?_ hb⟩
      subst he
      cases List.elem (0 + i) js with
      | false => exact hem
      | true => simp only [cond_true]; exact Array.mem_push_of_mem _ hem
    have fwd : ∀ (listed : Array Bool), listed.size = L.length → ∀ (i : Nat), i ∈ Region.ready .any L.toArray listed → i ∈ Region.ready .any (addE z js 0 L).toArray listed ∨ (z ∈ Region.ready .any L.toArray listed ∧ z ∈ Region.ready .any (addE z js 0 L).toArray listed) := by
      intro listed hsz i hi
      have hi0 := hi
      rw [mem_ready] at hi
      obtain ⟨h0, o, ho, hall⟩ := hi
      rw [List.getElem?_toArray] at ho
      cases hj : List.elem i js with
      | false =>
        left
        rw [mem_ready]
        refine ⟨h0, o, ?_, hall⟩
        rw [List.getElem?_toArray, addE_get, ho, Nat.zero_add, hj]; rfl
      | true =>
        cases hlz : listed.getD z false with
        | true =>
          left
          rw [mem_ready]
          refine ⟨h0, { o with after := o.after.push ⟨z, .data⟩ }, ?_, fun e hem hb => ?_⟩
          · rw [List.getElem?_toArray, addE_get, ho, Nat.zero_add, hj]; rfl
          · rcases Array.mem_push.1 hem with hem | hem
            · exact hall e hem hb
            · subst hem; exact hlz
        | false =>
          rcases Nat.lt_or_ge z listed.size with hlt | hge
          · right
            have hdz : ∀ e ∈ oz.after, Region.binds .any e = true → listed.getD e.on false = true := by
              intro e hem hb
              have h1 := (List.all_eq_true.1 hdep) i (by simpa using hj)
              rw [ho] at h1
              have h2 := (List.all_eq_true.1 h1) e (by simpa using hem)
              rw [hb] at h2
              simp only [Bool.not_true, Bool.false_or, List.any_eq_true, Bool.and_eq_true] at h2
              obtain ⟨e', q1, q2, q3⟩ := h2
              rw [← Nat.eq_of_beq_eq_true q3]
              exact hall e' (by simpa using q1) q2
            have hlz' : listed.getD z true = false := by
              simp only [Array.getD, hlt, dite_true] at hlz ⊢
              exact hlz
            refine ⟨mem_ready.2 ⟨hlz', oz, by rw [List.getElem?_toArray]; exact hz, hdz⟩, mem_ready.2 ⟨hlz', oz, ?_, hdz⟩⟩
            rw [List.getElem?_toArray, addE_get, hz, Nat.zero_add, hzj']; rfl
          · exfalso
            have := (List.getElem?_eq_some_iff.1 hz).1
            omega
    intro fuel
    induction fuel with
    | zero =>
      intro listed a w hsz H
      obtain ⟨H1, H2⟩ := H
      refine ⟨?_, H2⟩
      cases hrd : Region.ready .any L.toArray listed with
      | nil => rfl
      | cons i rs =>
        exfalso
        have hi : i ∈ Region.ready .any L.toArray listed := by rw [hrd]; simp
        rcases fwd listed hsz i hi with h | ⟨_, h⟩
        · rw [H1] at h; cases h
        · rw [H1] at h; cases h
    | succ fuel ih =>
      intro listed a w hsz H
      by_cases hz' : z ∈ Region.ready .any (addE z js 0 L).toArray listed
      · have hzL := back listed z hz'
        have hz1 := same_op (H.2 z hz')
        obtain ⟨v, hy, hK⟩ := extract_yields hex hr (by rw [List.getElem?_toArray]; exact hz) hz1
        refine wpAnyIn_first hr (by rw [List.getElem?_toArray]; exact hz) (Region.noSelect_spec hsel) (fun c a w h => (hQ c _ w h).elim) fuel listed a w ?_ hzL hy (ih _ _ _ (by simpa using hsz) hK)
        intro j oj hoj hjz hun hno
        rw [List.getElem?_toArray] at hoj
        have hlt : j < L.length := (List.getElem?_eq_some_iff.1 hoj).1
        have h1 := (List.all_eq_true.1 hap) j (List.mem_range.2 hlt)
        rw [hoj] at h1
        simp only [Bool.or_eq_true] at h1
        rcases h1 with ((h1 | h1) | h1) | h1
        · exact (hjz (Nat.eq_of_beq_eq_true h1)).elim
        · rw [List.any_eq_true] at h1
          obtain ⟨e, q1, q2⟩ := h1
          rw [Bool.and_eq_true] at q2
          exact (hno e (by simpa using q1) q2.1 (Nat.eq_of_beq_eq_true q2.2)).elim
        · exfalso
          rw [List.any_eq_true] at h1
          obtain ⟨e, q1, q2⟩ := h1
          rw [Bool.and_eq_true] at q2
          obtain ⟨_, o2, ho2, hall⟩ := mem_ready.1 hzL
          rw [List.getElem?_toArray, hz, Option.some.injEq] at ho2
          subst ho2
          have h3 := hall e (by simpa using q1) q2.1
          rw [Nat.eq_of_beq_eq_true q2.2] at h3
          have hlt2 : j < listed.size := by omega
          simp only [Array.getD, hlt2, dite_true] at h3 hun
          rw [h3] at hun; cases hun
        · exact h1
      · have sub : ∀ i, i ∈ Region.ready .any L.toArray listed → i ∈ Region.ready .any (addE z js 0 L).toArray listed := by
          intro i hi
          rcases fwd listed hsz i hi with h | ⟨_, h⟩
          · exact h
          · exact (hz' h).elim
        refine ⟨fun hnil => H.1 ?_, fun i hi => wpOpIn_mono (fun a w h => ih _ _ _ (by simpa using hsz) h) (same_op (H.2 i (sub i hi)))⟩
        cases hrd : Region.ready .any (addE z js 0 L).toArray listed with
        | nil => rfl
        | cons i rs =>
          exfalso
          have := back listed i (by rw [hrd]; simp)
          rw [hnil] at this; cases this
end

theorem w_late {P : Program} {C : Cx} {e : Env} {H : List SO} {K : Exit → Env → List SO → Prop} {L : List Oper} (z : Nat) (js : List Nat) (hr : C.r = none) (hm : P.follows .mixedOrders = true) (hok : okLate z js L = true) (hK : ∀ c e H, ¬ K (.panic c) e H)
    (h : WA P C (addE z js 0 L) e H K) : WA P C L e H K := fun a w hat => by
  have hF : (Fr C.r).round = none := by rw [hr]; rfl
  have h1 := h a w hat
  have hlen : (addE z js 0 L).toArray.size = L.toArray.size := by simp [addE_len]
  rw [hlen] at h1
  exact late_sound hF hok (fun c a w ⟨e, H, k, _⟩ => hK c e H k) _ _ _ _ (by simp) h1
end Go.Sx
namespace Go.Sx
open Go Go.RowKit
section late
variable {P : Program} {C : Cx} {e : Env} {H : List SO} {K : Exit → Env → List SO → Prop} {ops : Array Oper} {m : Nat} {ms : List Nat} {o : Oper} {l : List Oper} {acc : List Ent} {Fin : List Oper → List Ent → Prop}
theorem ra_q' {V : SV} {j : Nat} (hg : o.guard = none) (d : Option Tmp) (hdd : o.dst = d) (hj : acc.length = j) (hd : dstOK o.dst C.nt = true) (hf : freshD (envR e always acc) o.dst)
    (h : OpDo P C.r o (envR e (bitOn m) acc) (heapR H (bitOn m) acc) fun s H' => s = V ∧ H' = heapR H (bitOn m) acc) (hb : V.inb (hl H acc) = true) (k : RAf P C ops e H Fin ms l (⟨j, d, V, []⟩ :: acc)) : RAf P C ops e H Fin (m :: ms) (o :: l) acc := by
  subst hdd
  exact ra_q hg hj hd hf h hb k
theorem ra_n' {V : SV} {N : List SO} {j : Nat} (hg : o.guard = none) (d : Option Tmp) (hdd : o.dst = d) (hj : acc.length = j) (hd : dstOK o.dst C.nt = true) (hf : freshD (envR e always acc) o.dst)
    (h : OpDo P C.r o (envR e (bitOn m) acc) (heapR H (bitOn m) acc) fun s H' => s = V ∧ H' = heapR H (bitOn m) acc ++ N) (hb : V.inb (hl H acc + N.length) = true) (hN : inbH (hl H acc + N.length) N = true) (hO : allOwn N = true)
    (k : RAf P C ops e H Fin ms l (⟨j, d, V, N⟩ :: acc)) : RAf P C ops e H Fin (m :: ms) (o :: l) acc := by
  subst hdd
  exact ra_n hg hj hd hf h hb hN hO k
end late
theorem no_panic {P : Program} {fn : Func} {n : Nat} {K : SV → List SO → Prop} {c : List PanicEntry} {e : Env} {H : List SO} (h : Ret P fn n K (.panic c) e H) : False := by
  rcases h.1 with q | q <;> cases q
end Go.Sx

set_option linter.unusedVariables false
namespace Go.Sx
open Go Go.RowKit
def subsN : List Nat → List (List Nat)
  | [] => []
  | z :: zs => ([z] :: (subsN zs).map (z :: ·)) ++ subsN zs
theorem subsN_mem : ∀ {zs Z : List Nat}, Z ≠ [] → Z.Sublist zs → Z ∈ subsN zs
  | [], Z, h1, h2 => (h1 (List.sublist_nil.1 h2)).elim
  | z :: zs, Z, h1, h2 => by
    simp only [subsN]
    cases h2 with
    | cons _ h => exact List.mem_append_right _ (subsN_mem h1 h)
    | cons_cons _ h =>
      rename_i Z'
      apply List.mem_append_left
      cases Z' with
      | nil => simp
      | cons y Y => exact List.mem_cons_of_mem _ (List.mem_map.2 ⟨_, subsN_mem (by simp) h, rfl⟩)
theorem all_nil {R : List Nat → Prop} : ∀ Z ∈ ([] : List (List Nat)), R Z := fun Z h => by cases h
theorem all_cons {R : List Nat → Prop} {a : List Nat} {l : List (List Nat)} (h : R a) (k : ∀ Z ∈ l, R Z) : ∀ Z ∈ a :: l, R Z := fun Z hZ => by
  rcases List.mem_cons.1 hZ with rfl | hZ
  · exact h
  · exact k Z hZ
def bitsOf (zm : Nat) : Nat → List Nat
  | 0 => []
  | n + 1 => bitsOf zm n ++ (bif zm.testBit n then [n] else [])
section
variable {P : Program} {C : Cx} {e : Env} {H H' : List SO} {K : Exit → Env → List SO → Prop} {ops : Array Oper}
theorem wa_drawZ {L : List Oper} (ms mt zs : List Nat) (zm : Nat) (hzm : Nat.beq zm (zs.foldl (fun s z => s ||| 2 ^ z) 0) = true) (hzk : zs.all (fun z => Nat.blt z ms.length) = true) (hnd : zs.Nodup) (hmask : okMask (ms ++ mt) 0 L = true) (htail : okTailZ zm (ms ++ mt) ms.length mt.length = true) (hlen : L.length = ms.length + mt.length)
    (hE : inbE H.length e = true) (hH : inbH H.length H = true) (hC : C.ρ.length ≤ H.length) (h : RAf P C L.toArray e H (fun l acc => RW P C L.toArray l (envR e always acc) (heapR H always acc) K ∧ ∀ Z ∈ subsN zs, LateX P C L.toArray e H K Z l acc) ms L []) : WA P C L e H K := by
  refine wa_drawL ms mt hmask htail (fun j hj => ?_) (fun j hj => blt_lt (List.all_eq_true.1 hzk j hj)) hnd hlen hE hH hC (RAf.mono (fun l acc hh => ⟨hh.1, fun Z h1 h2 => hh.2 Z (subsN_mem h1 h2)⟩) h)
  rw [Nat.eq_of_beq_eq_true hzm] at hj
  have gen : ∀ (zs : List Nat) (s : Nat), (zs.foldl (fun s z => s ||| 2 ^ z) s).testBit j = true → s.testBit j = true ∨ j ∈ zs := by
    intro zs
    induction zs with
    | nil => intro s h; exact .inl h
    | cons z zs ih =>
      intro s h
      rcases ih _ h with h | h
      · rw [Nat.testBit_or, Bool.or_eq_true, Nat.testBit_two_pow] at h
        rcases h with h | h
        · exact .inl h
        · have : z = j := by simpa using h
          subst this; exact .inr (by simp)
      · exact .inr (List.mem_cons_of_mem _ h)
  rcases gen zs 0 hj with h | h
  · simp at h
  · exact h
theorem n_fin {l : List Oper} {acc : List Ent} {e' : Env} {zs : List Nat} [h1 : ER e acc e'] [h2 : HR H acc H'] (h : RW P C ops l e' H' K) (hl : ∀ Z ∈ subsN zs, LateX P C ops e H K Z l acc) : RAf P C ops e H (fun l acc => RW P C ops l (envR e always acc) (heapR H always acc) K ∧ ∀ Z ∈ subsN zs, LateX P C ops e H K Z l acc) [] l acc :=
  ra_fin ⟨by rw [h1.eq, h2.eq]; exact h, hl⟩
def RXop (P : Program) (C : Cx) (ops : Array Oper) (K : Exit → Env → List SO → Prop) (fuel : Nat) (listed : Array Bool) (e : Env) (H : List SO) (i : Nat) : Prop :=
  ∃ o, ops[i]? = some o ∧ o.guard = none ∧ dstOK o.dst C.nt = true ∧ OpDo P C.r o e H fun s H' => RX P C ops K fuel (listed.setIfInBounds i true) (putO e o.dst s) H'
theorem rx_step {f fuel : Nat} {listed : Array Bool} (rs : List Nat) (hf : f = fuel + 1) (hr : Region.ready .any ops listed = rs) (hne : rs.isEmpty = false) (h : ∀ i ∈ rs, RXop P C ops K fuel listed e H i) : RX P C ops K f listed e H := fun a w hat => by
  subst hf
  refine ⟨fun hn => ?_, fun i hi => ?_⟩
  · rw [hr] at hn; subst hn; cases hne
  · rw [hr] at hi
    obtain ⟨o, h1, h2, h3, h4⟩ := h i hi
    unfold wpOpIn
    simp only [h1, Region.wanted, h2, if_true]
    exact h4.wp h3 (fun s H' a w k q => k a w q) hat
theorem rx_done {f : Nat} {listed : Array Bool} (hr : Region.ready .any ops listed = []) (h : K .normal e H) : RX P C ops K f listed e H := fun a w hat => wpAnyIn_done hr ⟨e, H, h, hat⟩ f
theorem rx_nil {f : Nat} {listed : Array Bool} : ∀ i ∈ ([] : List Nat), RXop P C ops K f listed e H i := fun i h => by cases h
theorem rx_cons {f i : Nat} {l : List Nat} {listed : Array Bool} (h : RXop P C ops K f listed e H i) (k : ∀ i ∈ l, RXop P C ops K f listed e H i) : ∀ j ∈ i :: l, RXop P C ops K f listed e H j := fun j hj => by
  rcases List.mem_cons.1 hj with rfl | hj
  · exact h
  · exact k j hj
end
end Go.Sx

set_option linter.unusedVariables false
set_option linter.unusedSimpArgs false
namespace Go.Sx
open Go Go.RowKit
class TyBool (P : Program) (t : TypeId) : Prop where
  out : P.underlying t = some .bool
section ops
variable {P : Program} {r : Option Nat} {d : Option Tmp} {t : TypeId} {ps : String} {af : Array Edge} {g : Option (Nat × Bool)} {e : Env} {H : List SO} {K : SV → List SO → Prop}
end ops
end Go.Sx

set_option linter.unusedVariables false
set_option linter.unusedSimpArgs false
namespace Go.Sx
open Go Go.RowKit

/-- The loop's record: its block is an object whose values are the caller's temporaries. -/
def loopQ (fn nt : Nat) (ts : List Nat) (ps : Array Tmp) (assign body : Code) (D : Nat) (st : LoopState) (pend : Option Code) (vs : List Value) (ob : Obj) : Prop :=
  ∃ tmps : Array Value, ob = .loop { state := st, pending := pend, fn := fn, tmps := tmps, params := ps, assign := assign, body := body, defers := D } ∧ tmps.size = nt ∧
    ∀ (k : Nat) (t : Nat) (v : Value), ts[k]? = some t → vs[k]? = some v → tmps.getD t undef = v

theorem St.gen_at {ρ : Rho} {H : List SO} {w : World} (hs : St ρ H w) {y : Nat} {cs : List SV} {q : List Value → Obj → Prop} (hy : H[y]? = some (.gen cs q)) :
    ∃ I vs ob, ρ[y]? = some (some I) ∧ I.base = 0 ∧ w.heap[I.b]? = some ob ∧ q vs ob ∧ Reps ρ cs vs := by
  have hlt : y < ρ.length := by rw [hs.len]; exact (List.getElem?_eq_some_iff.1 hy).1
  have hk := hs.ok y _ _ hy (List.getElem?_eq_getElem hlt)
  simp only [okO] at hk
  obtain ⟨I, vs, ob, h3, h4, h5, h6, h7⟩ := hk
  exact ⟨I, vs, ob, by rw [List.getElem?_eq_getElem hlt, h3], h4, h5, h6.1, h7⟩
theorem St.put_gen {ρ : Rho} {H : List SO} {w : World} (hs : St ρ H w) {y : Nat} {I : Info} {cs : List SV} {q q' : List Value → Obj → Prop} {vs : List Value} {ob ob' : Obj} (hρ : ρ[y]? = some (some I)) (hy : H[y]? = some (.gen cs q)) (hb : I.base = 0) (hob : w.heap[I.b]? = some ob) (hr : Reps ρ cs vs) (hq : q' vs ob') (hn : ∀ x, ob' ≠ .deferred x) :
    St ρ (H.set y (.gen cs q')) (w.putObj I.b ob') ∧ Ev ρ H w ρ (H.set y (.gen cs q')) (w.putObj I.b ob') := by
  have hlt := (Array.getElem?_eq_some_iff.1 hob).1
  have hoth : ∀ b, b ≠ I.b → (w.putObj I.b ob').heap[b]? = w.heap[b]? := fun b hb => World.putObj_heap_other hb
  refine ⟨hs.put (x' := .gen cs q') hρ hy rfl (.inl rfl) hoth (by simp) ?_, Ev.put hρ hy rfl hoth (by simp) rfl rfl rfl⟩
  simp only [okO]
  exact ⟨I, vs, ob', rfl, hb, World.putObj_heap_same hlt, ⟨hq, hn⟩, hr⟩
theorem St.put_dead {ρ : Rho} {H : List SO} {w : World} (hs : St ρ H w) {y : Nat} {I : Info} {cs : List SV} {q : List Value → Obj → Prop} {ob' : Obj} (hρ : ρ[y]? = some (some I)) (hy : H[y]? = some (.gen cs q)) :
    St ρ (H.set y .dead) (w.putObj I.b ob') ∧ Ev ρ H w ρ (H.set y .dead) (w.putObj I.b ob') := by
  have hoth : ∀ b, b ≠ I.b → (w.putObj I.b ob').heap[b]? = w.heap[b]? := fun b hb => World.putObj_heap_other hb
  exact ⟨hs.put (x' := .dead) hρ hy rfl (.inr rfl) hoth (by simp) (by simp only [okO]), Ev.put hρ hy rfl hoth (by simp) rfl rfl rfl⟩

/-- The parameters of a round. -/
def envP (e : Env) : List Nat → List SV → Env
  | p :: ps, s :: ss => envP ((p, s) :: e) ps ss
  | _, _ => e
theorem env_fold {ρ : Rho} : ∀ (l : List (Nat × Value)) (tmps : Array Value) (e : Env) (ss : List SV), Reps ρ ss (l.map (·.2)) → (∀ t v, e.get t = some v → Rep ρ v (tmps.getD t undef)) → (∀ p ∈ l, p.1 < tmps.size) →
    (l.foldl (fun t (p : Nat × Value) => t.setIfInBounds p.1 p.2) tmps).size = tmps.size ∧ ∀ t v, (envP e (l.map (·.1)) ss).get t = some v → Rep ρ v ((l.foldl (fun t (p : Nat × Value) => t.setIfInBounds p.1 p.2) tmps).getD t undef)
  | [], tmps, e, ss, hr, he, hl => by
    cases ss with
    | nil => exact ⟨rfl, he⟩
    | cons s ss => simp [Reps] at hr
  | (p, a) :: l, tmps, e, ss, hr, he, hl => by
    cases ss with
    | nil => simp [Reps] at hr
    | cons s ss =>
      simp only [List.map_cons, Reps] at hr
      have hp : p < tmps.size := hl (p, a) (by simp)
      have ih := env_fold l (tmps.setIfInBounds p a) ((p, s) :: e) ss hr.2 (fun t v hv => by
        rw [Env.get_cons] at hv
        split at hv
        · rename_i ht
          subst ht
          simp only [Option.some.injEq] at hv
          subst hv
          rw [Array.getD_eq_getD_getElem?, Array.getElem?_setIfInBounds]
          simp [hp, hr.1]
        · rename_i ht
          have := he t v hv
          rw [Array.getD_eq_getD_getElem?, Array.getElem?_setIfInBounds_ne (fun h => ht h.symm)]
          rwa [Array.getD_eq_getD_getElem?] at this) (fun q hq => by rw [Array.size_setIfInBounds]; exact hl q (by simp [hq]))
      exact ⟨by rw [List.foldl_cons, ih.1, Array.size_setIfInBounds], ih.2⟩
theorem zip_env {ρ : Rho} {tmps : Array Value} : ∀ {ts : List Nat} {cs : List SV} {vs : List Value}, Reps ρ cs vs → (∀ (k : Nat) (t : Nat) (v : Value), ts[k]? = some t → vs[k]? = some v → tmps.getD t undef = v) → ∀ t s, Env.get (ts.zip cs) t = some s → Rep ρ s (tmps.getD t undef)
  | [], cs, vs, _, _, t, s, h => by simp [Env.get] at h
  | t0 :: ts, [], vs, _, _, t, s, h => by simp [Env.get] at h
  | t0 :: ts, s0 :: cs, [], hr, _, t, s, h => by simp [Reps] at hr
  | t0 :: ts, s0 :: cs, v0 :: vs, hr, hq, t, s, h => by
    simp only [Reps] at hr
    rw [List.zip_cons_cons, Env.get_cons] at h
    split at h
    · rename_i ht
      subst ht
      simp only [Option.some.injEq] at h
      subst h
      rw [hq 0 t v0 (by simp) (by simp)]
      exact hr.1
    · exact zip_env hr.2 (fun k t v h1 h2 => hq (k + 1) t v (by simpa using h1) (by simpa using h2)) t s h

/-- Where a round's body ends. -/
def RoundK (y : Nat) (q : LoopState → Option Code → List Value → Obj → Prop) (K : SV → List SO → Prop) : Exit → Env → List SO → Prop
  | .normal, _, H => ∃ cs, H[y]? = some (.gen cs (q .busy none)) ∧ K (.val (.bool true)) (H.set y (.gen cs (q .ready none)))
  | .ret, _, H => ∃ cs, H[y]? = some (.gen cs (q .busy none)) ∧ K (.val (.bool false)) (H.set y (.gen cs (q .done (some .ret))))
  | .exit i, _, H => ∃ cs, H[y]? = some (.gen cs (q .busy none)) ∧ K (.val (.bool false)) (H.set y (.gen cs (q .done (some (.exit i)))))
  | _, _, _ => False
def AsgK (P : Program) (C : Cx) (body : Code) (y : Nat) (q : LoopState → Option Code → List Value → Obj → Prop) (K : SV → List SO → Prop) : Exit → Env → List SO → Prop
  | .normal, e, H => ∃ cs, H[y]? = some (.gen cs (q .ready none)) ∧ W P C body e (H.set y (.gen cs (q .busy none))) (RoundK y q K)
  | _, _, _ => False

section call
variable {P : Program} {r : Option Nat} {d : Option Tmp} {t : TypeId} {pos : String} {af : Array Edge} {gd : Option (Nat × Bool)} {e : Env} {H : List SO} {K : SV → List SO → Prop}
theorem do_yield {f : Operand} {args : Array Operand} {ats : Array TypeId} {y fn nt D : Nat} {ts : List Nat} {ps : Array Tmp} {assign body : Code} {cs ag : List SV} (hf : ev e f = some (.yield y)) (ha : evs e args.toList = some ag)
    (hy : H[y]? = some (.gen cs (loopQ fn nt ts ps assign body D .ready none))) (hn : args.size = ps.size) (hps : ps.toList.all (fun p => Nat.blt p nt) = true)
    (h : ∀ ρ w l, ρ.length = H.length → W P ⟨ρ, H, w, nt, [], some l⟩ assign (envP (ts.zip cs) ps.toList ag) H (AsgK P ⟨ρ, H, w, nt, [], some l⟩ body y (loopQ fn nt ts ps assign body D) K)) :
    OpDo P r ⟨d, .call ⟨.value f, args, ats⟩, t, pos, af, gd⟩ e H K := by
  refine ⟨by simp, fun ρ a w he hs => ?_⟩
  have h1 := he.ev hf
  simp only [Rep] at h1
  obtain ⟨I, hI, hv⟩ := h1
  obtain ⟨I', vs, ob, g1, g2, g3, ⟨tmps, rfl, q1, q2⟩, g5⟩ := hs.gen_at hy
  rw [hI] at g1
  simp only [Option.some.injEq] at g1
  subst g1
  have hag := he.evs ha
  have hsz : (args.map a.eval).size = ps.size := by simp [hn]
  refine ⟨.round I.b fn ((ps.zip (args.map a.eval)).foldl (fun tmps (t, a) => tmps.setIfInBounds t a) tmps) assign body, w, ?_, rfl, ?_⟩
  · have := run_yield (P := P) (args := args.map a.eval) g3 hsz
    simp [execOp, resolve, hv, Deferred.ofValue, invoke, this]
  · refine roundIn_of_wpIn (F := Fr none) trivial ?_
    have hz : (ps.zip (args.map a.eval)).toList = ps.toList.zip (args.toList.map a.eval) := by simp
    have hz2 : (ps.toList.zip (args.toList.map a.eval)).map (·.2) = args.toList.map a.eval := List.map_snd_zip (by simp; omega)
    have hz1 : (ps.toList.zip (args.toList.map a.eval)).map (·.1) = ps.toList := List.map_fst_zip (by simp; omega)
    have hfold := env_fold (ρ := ρ) (ps.toList.zip (args.toList.map a.eval)) tmps (ts.zip cs) ag (by rw [hz2]; exact hag) (zip_env g5 q2) (fun p hp => by
      have h1 := List.all_eq_true.1 hps p.1 (List.of_mem_zip hp).1
      have h2 : p.1 < nt := by simpa using h1
      omega)
    rw [hz1] at hfold
    have hat : At ⟨ρ, H, w, nt, [], some I.b⟩ (envP (ts.zip cs) ps.toList ag) H { tmps := (ps.zip (args.map a.eval)).foldl (fun tmps (t, a) => tmps.setIfInBounds t a) tmps, defers := [] } w := by
      have e1 : (ps.zip (args.map a.eval)).foldl (fun tmps (t, a) => tmps.setIfInBounds t a) tmps = (ps.toList.zip (args.toList.map a.eval)).foldl (fun t (p : Nat × Value) => t.setIfInBounds p.1 p.2) tmps := by
        rw [← Array.foldl_toList, hz]
      refine ⟨ρ, fun t v hv => ?_, hs, Ev.refl _ _ _, ?_, Mk.nil⟩
      · rw [e1]; exact hfold.2 t v hv
      · rw [e1]; exact hfold.1.trans q1
    refine wpIn_mono (h ρ w I.b hs.len _ _ hat) ?_
    rintro x a1 w1 ⟨e1, H1, k, ρ1, he1, hs1, hev1, hsz1, hmk1⟩
    cases x with
    | normal =>
      obtain ⟨cs1, k1, k2⟩ := k
      obtain ⟨I1, vs1, ob1, b1, b2, b3, ⟨tmps1, rfl, b4, b5⟩, b6⟩ := hs1.gen_at k1
      have e2 := hev1.ext y I hI
      rw [b1] at e2
      simp only [Option.some.injEq] at e2
      subst e2
      refine ⟨_, run_beginRound b3 rfl, ?_⟩
      obtain ⟨m1, m2⟩ := hs1.put_gen (q' := loopQ fn nt ts ps assign body D .busy none) b1 k1 b2 b3 b6 ⟨tmps1, rfl, b4, b5⟩ (fun x e => by cases e)
      refine wpIn_mono (k2 a1 _ ⟨ρ1, he1, m1, hev1.trans m2, hsz1, hmk1.step m2⟩) ?_
      rintro x2 a2 w2 ⟨e3, H3, k3, ρ3, he3, hs3, hev3, hsz3, hmk3⟩
      have fin : ∀ (jump : Option Code) (st : LoopState) (bb : Bool) (cs3 : List SV), H3[y]? = some (.gen cs3 (loopQ fn nt ts ps assign body D .busy none)) → st = (if jump.isNone then .ready else .done) → bb = jump.isNone →
          K (.val (.bool bb)) (H3.set y (.gen cs3 (loopQ fn nt ts ps assign body D st jump))) → ∃ v w', (Instr.endRound I1.b jump).run P w2 = .ok v w' ∧ Ends ρ H w K (.returned v) w' := by
        intro jump st bb cs3 c1 hst hbb hk
        obtain ⟨I3, vs3, ob3, d1, d2, d3, ⟨tmps3, rfl, d4, d5⟩, d6⟩ := hs3.gen_at c1
        have e4 := hev3.ext y I1 hI
        rw [d1] at e4
        simp only [Option.some.injEq] at e4
        subst e4
        obtain ⟨n1, n2⟩ := hs3.put_gen (q' := loopQ fn nt ts ps assign body D st jump) d1 c1 d2 d3 d6 ⟨tmps3, rfl, d4, d5⟩ (fun x e => by cases e)
        refine ⟨_, _, run_endRound jump d3, _, rfl, ρ3, .val (.bool bb), _, by simp only [Rep, hbb], ?_, hev3.trans ?_, hk⟩
        · rw [← hst]; exact n1
        · rw [← hst]; exact n2
      cases x2 with
      | normal => obtain ⟨cs3, c1, c2⟩ := k3; exact fin none _ _ cs3 c1 rfl rfl c2
      | ret => obtain ⟨cs3, c1, c2⟩ := k3; exact fin (some .ret) _ _ cs3 c1 rfl rfl c2
      | exit i => obtain ⟨cs3, c1, c2⟩ := k3; exact fin (some (.exit i)) _ _ cs3 c1 rfl rfl c2
      | _ => exact k3.elim
    | _ => exact k.elim
end call

/-- Where the function that is ranged over ends. -/
def IterK (y : Nat) (q : LoopState → Option Code → List Value → Obj → Prop) (e : Env) (K : Exit → Env → List SO → Prop) (H : List SO) : Prop :=
  ∃ cs st pend, H[y]? = some (.gen cs (q st pend)) ∧ st ≠ .busy ∧
    (match pend with
      | none => K .normal e (H.set y .dead)
      | some .ret => K .ret e (H.set y .dead)
      | some (.exit i) => K (.exit i) e (H.set y .dead)
      | _ => False)
theorem St.grow {ρ : Rho} {H : List SO} {w w' : World} (hs : St ρ H w) (h : ∀ b, b < w.heap.size → w'.heap[b]? = w.heap[b]?) (hsz : w.heap.size ≤ w'.heap.size) : St ρ H w' :=
  ⟨hs.len, fun o obj io a b => (hs.ok o obj io a b).keep (Ext.refl _) hsz (fun I _ _ hb => h _ hb), hs.inj, hs.ro⟩

theorem callsIn_round {P : Program} {r : Option Nat} {f : FuncId} {args : Array Value} {w : World} {R : Ending → World → Prop} (h : CallsIn (Fr none) 0 P f args w R) : CallsIn (Fr r) 0 P f args w R := by
  cases r with
  | none => exact h
  | some l => exact CallsIn.inRound l h
section rules
variable {P : Program} {C : Cx} {e : Env} {H : List SO} {K : Exit → Env → List SO → Prop}
theorem w_rangeFunc {g : Operand} {ps : Array Tmp} {assign body : Code} {gf : FuncId} {fs caps : List SV} [FnOK P gf] (es : Env) (hr : C.r = none) (hg : ev e g = some (.func gf fs caps)) (hes : ShE id e es)
    (h : ∀ fn D, Tri P gf (fs ++ [.yield H.length] ++ caps) (H ++ [.gen (es.map (·.2)) (loopQ fn C.nt (es.map (·.1)) ps assign body D .ready none)])
      (fun _ H' => IterK H.length (loopQ fn C.nt (es.map (·.1)) ps assign body D) es K H')) : W P C (.rangeFunc g ps assign body) e H K := fun a w hat => by
  obtain ⟨ρ, he, hs, hev, hsz, hmk⟩ := hat
  refine wpIn_rangeFunc fun fn _ => ?_
  have hgv := he.ev hg
  simp only [Rep] at hgv
  obtain ⟨va, vb, g1, g2, g3⟩ := hgv
  have hw1 : St ρ H (w.alloc (.deferred (some []))) := hs.grow (fun b hb => Below.heap_alloc w _ b hb) (by simp)
  have hev1 : Ev ρ H w ρ H (w.alloc (.deferred (some []))) := ⟨List.prefix_refl _, by simp, rfl, rfl, rfl, fun b hb _ => Below.heap_alloc w _ b hb, fun _ h => .inl h⟩
  let vs : List Value := es.map fun p => a.tmps.getD p.1 undef
  have hreps : ∀ (ρ' : Rho), Ext ρ ρ' → ∀ (l : Env), (∀ p ∈ l, Rep ρ p.2 (a.tmps.getD p.1 undef)) → Reps ρ' (l.map (·.2)) (l.map fun p => a.tmps.getD p.1 undef) := by
    intro ρ' hx l
    induction l with
    | nil => intro _; simp only [List.map_nil, Reps]
    | cons p l ih =>
      intro hl
      simp only [List.map_cons, Reps]
      exact ⟨Rep.ext hx _ _ (hl p (by simp)), ih fun q hq => hl q (by simp [hq])⟩
  have hall : ∀ p ∈ es, Rep ρ p.2 (a.tmps.getD p.1 undef) := by
    have gen : ∀ l : Env, ShE id e l → ∀ p ∈ l, Rep ρ p.2 (a.tmps.getD p.1 undef) := by
      intro l
      induction l with
      | nil => intro _ p hp; cases hp
      | cons q l ih =>
        intro hl p hp
        simp only [ShE] at hl
        rcases List.mem_cons.1 hp with rfl | hp
        · obtain ⟨s, h1, h2⟩ := hl.1
          rw [svId] at h2
          exact he _ _ (h2 ▸ h1)
        · exact ih hl.2 p hp
    exact gen es hes
  obtain ⟨s1, s2⟩ := hw1.newG (ob := .loop { state := .ready, pending := none, fn := fn, tmps := a.tmps, params := ps, assign := assign, body := body, defers := w.heap.size })
    (obj := .gen (es.map (·.2)) (loopQ fn C.nt (es.map (·.1)) ps assign body w.heap.size .ready none)) (sz := 1) (n := 0) rfl (by
      simp only [okO]
      refine ⟨_, vs, _, rfl, rfl, heap_alloc_new _ _, ⟨⟨a.tmps, rfl, hsz, fun k t v h1 h2 => ?_⟩, fun x h => by cases h⟩, hreps _ (Ext.append _ _) es hall⟩
      rw [List.getElem?_map] at h1
      simp only [vs, List.getElem?_map] at h2
      cases hk : es[k]? with
      | none => rw [hk] at h1; cases h1
      | some p =>
        rw [hk] at h1 h2
        simp only [Option.map_some, Option.some.injEq] at h1 h2
        rw [← h1, ← h2])
  have hsz1 : (w.alloc (.deferred (some []))).heap.size = w.heap.size + 1 := by simp
  have hargs : Reps (ρ ++ [some ⟨w.heap.size + 1, 0, 1, 0⟩]) (fs ++ [.yield H.length] ++ caps) (va.toList ++ [.func (.yield (w.heap.size + 1)) #[] #[]] ++ vb.toList) := by
    refine ((Reps.ext (Ext.append _ _) _ _ g2).append ?_).append (Reps.ext (Ext.append _ _) _ _ g3)
    simp only [Reps, Rep, and_true]
    exact ⟨_, by rw [← hs.len]; exact getElem_snoc_len _ _, rfl⟩
  rw [hsz1] at s1 s2
  obtain ⟨w1, hw1e⟩ : ∃ w1, w1 = (w.alloc (.deferred (some []))).alloc (.loop { state := .ready, pending := none, fn := fn, tmps := a.tmps, params := ps, assign := assign, body := body, defers := w.heap.size }) := ⟨_, rfl⟩
  refine ⟨w.heap.size + 1, [{ target := .collected w.heap.size, args := #[] }], w1, { target := .fn (.func gf) vb, args := va ++ #[.func (.yield (w.heap.size + 1)) #[] #[]] }, w1, gf, va ++ #[.func (.yield (w.heap.size + 1)) #[] #[]] ++ vb, w1,
    by rw [hw1e, show (Fr C.r).round = none from hr]; exact run_enterLoop_outer _ _ _ _ _, ?_, fun _ _ => trivial, ?_, Fr.depth _, ?_⟩
  · simp [resolve, g1, Deferred.ofValue]; rfl
  · simp [invoke, run_callFunc]
  · rw [← hw1e] at s1 s2
    have hc := h fn w.heap.size _ w1 _ hargs s1
    have e1 : (va.toList ++ [Value.func (.yield (w.heap.size + 1)) #[] #[]] ++ vb.toList).toArray = va ++ #[.func (.yield (w.heap.size + 1)) #[] #[]] ++ vb := by
      apply Array.ext'
      simp
    rw [e1] at hc
    refine (callsIn_round (r := C.r) hc).mono ?_
    rintro ed w3 ⟨v, rfl, ρ3, s3, H3, -, hs3, hev3, cs3, st, pend, hy, hst, hk⟩
    obtain ⟨I3, vs3, ob3, d1, d2, d3, ⟨tmps3, rfl, d4, d5⟩, d6⟩ := hs3.gen_at hy
    have hI3 : I3.b = w.heap.size + 1 := by
      have := hev3.ext H.length _ (by rw [← hs.len]; exact getElem_snoc_len ρ (some ⟨w.heap.size + 1, 0, 1, 0⟩))
      rw [d1] at this
      simp only [Option.some.injEq] at this
      rw [this]
    have hend := run_endLoop (P := P) d3 hst
    rw [hI3] at hend
    refine ⟨_, _, hend, ?_⟩
    obtain ⟨n1, n2⟩ := hs3.put_dead (ob' := .loop { state := .exhausted, pending := pend, fn := fn, tmps := tmps3, params := ps, assign := assign, body := body, defers := w.heap.size }) d1 hy
    rw [hI3] at n1 n2
    have hevA : Ev ρ H w ρ3 (H3.set H.length .dead) _ := (hev1.trans s2).trans (hev3.trans n2)
    have hD1 : w1.heap[w.heap.size]? = some (.deferred (some [])) := by
      rw [hw1e]; exact (Below.heap_alloc _ _ _ (by simp)).trans (World.alloc_heap_new w _)
    have hsz2 : w1.heap.size = w.heap.size + 2 := by rw [hw1e]; simp
    have hno1 : ¬ OwnB (ρ ++ [some ⟨w.heap.size + 1, 0, 1, 0⟩]) (H ++ [.gen (es.map (·.2)) (loopQ fn C.nt (es.map (·.1)) ps assign body w.heap.size .ready none)]) w.heap.size := fun ho => by
      obtain ⟨o, I, x, a1, a2, a3, a4⟩ := ho
      rcases get_snoc a1 with ⟨b1, b2⟩ | ⟨b1, b2⟩
      · rcases get_snoc a2 with ⟨c1, c2⟩ | ⟨c1, c2⟩
        · have := hs.ownB_lt ⟨o, I, x, b2, c2, a3, rfl⟩
          omega
        · have := hs.len
          omega
      · cases b2
        simp at a4
    have hevB : Ev (ρ ++ [some ⟨w.heap.size + 1, 0, 1, 0⟩]) (H ++ [.gen (es.map (·.2)) (loopQ fn C.nt (es.map (·.1)) ps assign body w.heap.size .ready none)]) w1 ρ3 (H3.set H.length .dead) _ := hev3.trans n2
    have hat : At C es (H3.set H.length .dead) { a with defers := [{ target := .collected w.heap.size, args := #[] }] ++ a.defers } (w3.putObj (w.heap.size + 1) (.loop { state := .exhausted, pending := pend, fn := fn, tmps := tmps3, params := ps, assign := assign, body := body, defers := w.heap.size })) := by
      refine ⟨ρ3, fun t v hv => ?_, n1, hev.trans hevA, hsz, ?_⟩
      · have := hes.get t v hv
        rw [svId] at this
        exact Rep.ext hevA.ext _ _ (he t v this)
      · obtain ⟨rs, m1, m2, m3⟩ := hmk.step hevA
        obtain ⟨rs0, m10, m20, m30⟩ := hmk
        refine ⟨w.heap.size :: rs0, ?_, ?_, ?_⟩
        · simp [m10]
        · rw [List.nodup_cons]
          refine ⟨fun hm => ?_, m20⟩
          have := (Array.getElem?_eq_some_iff.1 (m30 _ hm).2.1).1
          omega
        · intro r hr'
          rcases List.mem_cons.1 hr' with rfl | hr'
          · refine ⟨hev.size, (hevB.block _ (by omega) hno1).trans hD1, fun ho => ?_⟩
            rcases hevB.own _ ho with q | q
            · exact hno1 q
            · omega
          · obtain ⟨x1, x2, x3⟩ := m30 r hr'
            have hlt := (Array.getElem?_eq_some_iff.1 x2).1
            refine ⟨x1, (hevA.block r hlt x3).trans x2, fun ho => ?_⟩
            rcases hevA.own r ho with q | q
            · exact x3 q
            · omega
    cases pend with
    | none => exact ⟨es, _, hk, hat⟩
    | some c =>
      cases c with
      | ret => exact wpIn_ret ⟨es, _, hk, hat⟩
      | exit i => exact wpIn_exit ⟨es, _, hk, hat⟩
      | _ => exact hk.elim
end rules
end Go.Sx

set_option linter.unusedVariables false
set_option linter.unusedSimpArgs false
namespace Go.Sx
open Go Go.RowKit
abbrev LQ := LoopState → Option Code → List Value → Obj → Prop
def IsLoop (q : LQ) (nt : Nat) (ts : List Nat) (ps : Array Tmp) (assign body : Code) : Prop := ∃ fn D, q = loopQ fn nt ts ps assign body D
section
variable {P : Program} {C : Cx} {e : Env} {H : List SO} {K : Exit → Env → List SO → Prop}
theorem w_rf {g : Operand} {ps : Array Tmp} {assign body : Code} {gf : FuncId} {fs caps : List SV} [FnOK P gf] (es : Env) (n : Nat) (args' : List SV) (H' : LQ → List SO) (hr : C.r = none) (hg : ev e g = some (.func gf fs caps)) (hn : H.length = n) (ha : args' = fs ++ [.yield n] ++ caps)
    (hH : ∀ q : LQ, H' q = H ++ [.gen (es.map (·.2)) (q .ready none)]) (hes : ShE id e es)
    (h : ∀ q : LQ, IsLoop q C.nt (es.map (·.1)) ps assign body → Tri P gf args' (H' q) (fun _ H2 => IterK n q es K H2)) : W P C (.rangeFunc g ps assign body) e H K := by
  refine w_rangeFunc es hr hg hes fun fn D => ?_
  have := h (loopQ fn C.nt (es.map (·.1)) ps assign body D) ⟨fn, D, rfl⟩
  rw [hH, ha] at this
  rw [hn]
  exact this
theorem w_midS1 {x : Code} {ι : Type} (E : ι → Env) (S : ι → List SO) (G : ι → Prop) (hlen : C.ρ.length = C.H.length) (h1 : W P C x e H (MdS C.H.length E S G K)) (h2 : ∀ i, G i → K .normal (E i) (S i)) : W P C x e H K := fun a w hat =>
  wpIn_mono (h1 a w hat) fun ex a' w' hk => by
    obtain ⟨e', H', k, hat'⟩ := hk
    cases ex with
    | normal =>
      obtain ⟨j, σ, k1, k2, k3, k4, k5⟩ := k
      exact ⟨E j, S j, h2 j k1, hat'.shift σ k2 k3 k4 hlen k5⟩
    | _ => exact ⟨e', H', k, hat'⟩
theorem bl_n {i : Nat} (h : K .normal e H) : Bl i K .normal e H := h
theorem bl_r {i : Nat} (h : K .ret e H) : Bl i K .ret e H := h
theorem bl_e {i j : Nat} (hn : Nat.beq j i = false) (h : K (.exit j) e H) : Bl i K (.exit j) e H := by
  show bif Nat.beq j i then _ else _
  rw [hn]; exact h
theorem nx_r {y : Code} (h : K .ret e H) : Nx P C y K .ret e H := h
theorem nx_e {y : Code} {j : Nat} (h : K (.exit j) e H) : Nx P C y K (.exit j) e H := h
theorem asg_done {C : Cx} {body : Code} {y : Nat} {q : LQ} {K : SV → List SO → Prop} {cs : List SV} {H' : List SO} (hy : H[y]? = some (.gen cs (q .ready none))) [g : LSet H y (.gen cs (q .busy none)) H'] (k : W P C body e H' (RoundK y q K)) : AsgK P C body y q K .normal e H :=
  ⟨cs, hy, by rw [g.eq]; exact k⟩
theorem round_normal {y : Nat} {q : LQ} {K : SV → List SO → Prop} {cs : List SV} {H' : List SO} (hy : H[y]? = some (.gen cs (q .busy none))) [g : LSet H y (.gen cs (q .ready none)) H'] (k : K (.val (.bool true)) H') : RoundK y q K .normal e H :=
  ⟨cs, hy, by rw [g.eq]; exact k⟩
theorem round_ret {y : Nat} {q : LQ} {K : SV → List SO → Prop} {cs : List SV} {H' : List SO} (hy : H[y]? = some (.gen cs (q .busy none))) [g : LSet H y (.gen cs (q .done (some .ret))) H'] (k : K (.val (.bool false)) H') : RoundK y q K .ret e H :=
  ⟨cs, hy, by rw [g.eq]; exact k⟩
theorem iter_none {y : Nat} {q : LQ} {cs : List SV} {H' : List SO} (hy : H[y]? = some (.gen cs (q .ready none))) [g : LSet H y .dead H'] (k : K .normal e H') : IterK y q e K H :=
  ⟨cs, _, none, hy, by simp, by rw [g.eq]; exact k⟩
theorem iter_ret {y : Nat} {q : LQ} {cs : List SV} {H' : List SO} (hy : H[y]? = some (.gen cs (q .done (some .ret)))) [g : LSet H y .dead H'] (k : K .ret e H') : IterK y q e K H :=
  ⟨cs, _, some .ret, hy, by simp, by rw [g.eq]; exact k⟩
/-- A part of a block, said less exactly. -/
theorem w_weakB {c : Code} (b f : Nat) {s : SV} (s' : SV) (hw : ∀ ρ v, Rep ρ s v → Rep ρ s' v) {cs : List SV} (hb : H[b]? = some (.box cs)) (hf : cs[f]? = some s) (h : W P C c e (H.set b (.box (cs.set f s'))) K) : W P C c e H K := fun a w hat => by
  obtain ⟨ρ, he, hs, hev, q1, q2⟩ := hat
  have hst : St ρ (H.set b (.box (cs.set f s'))) w := by
    refine ⟨by simp [hs.len], fun i x io hx hio => ?_, fun i i' I I' x x' r1 r2 r3 r4 r5 r6 r7 => ?_, fun i i' I I' x x' r1 r2 r3 r4 r5 r6 r7 r8 => ?_⟩
    · rcases get_set hx with ⟨r1, r2, r3⟩ | ⟨r1, r2⟩
      · subst r1; subst r2
        have hk := hs.ok i _ io hb hio
        simp only [okO] at hk ⊢
        obtain ⟨I, vs, tt, h1, h2, h3, h4, h5⟩ := hk
        refine ⟨I, vs, tt, h1, h2, h3, h4, ?_⟩
        obtain ⟨v, h6, h7⟩ := h5.get f _ hf
        have h8 := h5.set f (hw _ _ h7)
        have h9 : vs.toList.set f v = vs.toList := by
          apply List.ext_getElem?
          intro k
          rw [List.getElem?_set]
          split
          · rename_i hkf
            subst hkf
            split
            · exact h6.symm
            · rename_i hlt; rw [List.getElem?_eq_none (by omega)]
          · rfl
        rwa [h9] at h8
      · exact hs.ok i x io r2 hio
    · have back : ∀ (i : Nat) (x : SO), (H.set b (.box (cs.set f s')))[i]? = some x → x.own = true → ∃ y, H[i]? = some y ∧ y.own = true := by
        intro i x hx hown
        rcases get_set hx with ⟨q1, q2, q3⟩ | ⟨q1, q2⟩
        · subst q1; exact ⟨_, hb, rfl⟩
        · exact ⟨x, q2, hown⟩
      obtain ⟨y, y1, y2⟩ := back i x r3 r5
      obtain ⟨y', y1', y2'⟩ := back i' x' r4 r6
      exact hs.inj i i' I I' y y' r1 r2 y1 y1' y2 y2' r7
    · have back : ∀ (i : Nat) (x : SO), (H.set b (.box (cs.set f s')))[i]? = some x → x.own = true → ∃ y, H[i]? = some y ∧ y.own = true := by
        intro i x hx hown
        rcases get_set hx with ⟨q1, q2, q3⟩ | ⟨q1, q2⟩
        · subst q1; exact ⟨_, hb, rfl⟩
        · exact ⟨x, q2, hown⟩
      obtain ⟨y, y1, y2⟩ := back i x r3 r5
      rcases get_set r4 with ⟨q1, q2, q3⟩ | ⟨q1, q2⟩
      · subst q2; cases r6
      · exact hs.ro i i' I I' y x' r1 r2 y1 q2 y2 r6 r7 r8
  have hown : ∀ b', OwnB ρ (H.set b (SO.box (cs.set f s'))) b' → OwnB ρ H b' := fun b' hb' => by
    obtain ⟨i, I, x, h1, h2, h3, h4⟩ := hb'
    rcases get_set h2 with ⟨q1, q2, q3⟩ | ⟨q1, q2⟩
    · subst q1; exact ⟨i, I, _, h1, hb, rfl, h4⟩
    · exact ⟨i, I, x, h1, q2, h3, h4⟩
  refine h a w ⟨ρ, he, hst, ⟨hev.pre, hev.size, hev.os, hev.tape, hev.output, hev.block, fun b' hb' => hev.own b' (hown b' hb')⟩, q1, q2.weak hown⟩
theorem cap_weak {o off len : Nat} {cap : Option Nat} (ρ : Rho) (v : Value) (h : Rep ρ (.slc o off len cap) v) : Rep ρ (.slc o off len none) v := by
  simp only [Rep] at h ⊢
  rcases h with ⟨I, c, h1, h2, h3, h4, h5⟩ | ⟨h1, h2, h3⟩
  · exact .inl ⟨I, c, h1, h2, h3, h4, fun k hk => by cases hk⟩
  · exact .inr ⟨h1, h2, fun k hk => by cases hk⟩
theorem n_capB {c : Code} (b f : Nat) {o off len : Nat} {cap : Option Nat} {cs cs' H' : _} (hb : H[b]? = some (.box cs)) (hf : cs[f]? = some (.slc o off len cap)) [h1 : LSet cs f (.slc o off len none) cs'] [h2 : LSet H b (.box cs') H'] (h : W P C c e H' K) : W P C c e H K :=
  w_weakB b f _ cap_weak hb hf (by rw [h1.eq, h2.eq]; exact h)
theorem ret_iter {fn : Func} {n y : Nat} {q : LQ} {es e' : Env} {Y : List SO} {x : Exit} (hx : x = .ret ∨ x = .normal) (h1 : fn.results.toList = []) (σ : List Nat) (h3 : ShH (nm σ H.length) H σ Y) (h4 : sep σ (owns Y) = true) (h5 : List.range n <+: σ) (k : IterK y q es K Y) :
    Ret P fn n (fun _ H2 => IterK y q es K H2) x e' H := ⟨hx, [], by rw [h1]; exact .nil, σ, Y, .tup [], rfl, h3, h4, h5, k⟩
end
section weak
variable {P : Program} {C : Cx} {e : Env} {H : List SO} {K : Exit → Env → List SO → Prop}
end weak
section call
variable {P : Program} {r : Option Nat} {d : Option Tmp} {t : TypeId} {pos : String} {af : Array Edge} {gd : Option (Nat × Bool)} {e : Env} {H : List SO} {K : SV → List SO → Prop}
theorem do_yieldQ {f : Operand} {args : Array Operand} {ats : Array TypeId} {y nt : Nat} {ts : List Nat} {ps : Array Tmp} {assign body : Code} {cs ag : List SV} {q : LQ} (e1 : Env) (hq : IsLoop q nt ts ps assign body) (hf : ev e f = some (.yield y)) (ha : evs e args.toList = some ag)
    (hy : H[y]? = some (.gen cs (q .ready none))) (hn : args.size = ps.size) (hps : ps.toList.all (fun p => Nat.blt p nt) = true) (he : envP (ts.zip cs) ps.toList ag = e1)
    (h : ∀ ρ w l, ρ.length = H.length → W P ⟨ρ, H, w, nt, [], some l⟩ assign e1 H (AsgK P ⟨ρ, H, w, nt, [], some l⟩ body y q K)) :
    OpDo P r ⟨d, .call ⟨.value f, args, ats⟩, t, pos, af, gd⟩ e H K := by
  obtain ⟨fn, D, rfl⟩ := hq
  subst he
  exact do_yield hf ha hy hn hps h
end call
end Go.Sx

set_option linter.unusedVariables false
namespace Go.Proofs
open Go Go.Sx Go.RowKit
theorem u2 : Try.prog.underlying 2 = some (TypeDesc.int IntKind.i64) := by kernel_rfl
theorem u3 : Try.prog.underlying 3 = some (TypeDesc.int IntKind.i64) := by kernel_rfl
theorem u4 : Try.prog.underlying 4 = some TypeDesc.bool := by kernel_rfl
theorem u5 : Try.prog.underlying 5 = some (TypeDesc.int IntKind.u8) := by kernel_rfl
theorem u22 : Try.prog.underlying 22 = some (TypeDesc.slice 68) := by kernel_rfl
theorem u24 : Try.prog.underlying 24 = some (TypeDesc.struct #[{ name := "N", type := 3, offset := 0, embedded := false, tag := "", pkgPath := "", byteOffset := 0 }, { name := "S", type := 3, offset := 1, embedded := false, tag := "", pkgPath := "", byteOffset := 8 }, { name := "T", type := 3, offset := 2, embedded := false, tag := "", pkgPath := "", byteOffset := 16 }, { name := "Arcs", type := 22, offset := 3, embedded := false, tag := "", pkgPath := "", byteOffset := 24 }]) := by kernel_rfl
theorem u25 : Try.prog.underlying 25 = some (TypeDesc.slice 41) := by kernel_rfl
theorem u26 : Try.prog.underlying 26 = some (TypeDesc.slice 2) := by kernel_rfl
theorem u27 : Try.prog.underlying 27 = some (TypeDesc.slice 3) := by kernel_rfl
theorem u29 : Try.prog.underlying 29 = some (TypeDesc.struct #[{ name := "Res", type := 26, offset := 0, embedded := false, tag := "", pkgPath := "", byteOffset := 0 }, { name := "Ex", type := 26, offset := 1, embedded := false, tag := "", pkgPath := "", byteOffset := 24 }, { name := "H", type := 27, offset := 2, embedded := false, tag := "", pkgPath := "", byteOffset := 48 }]) := by kernel_rfl
theorem u30 : Try.prog.underlying 30 = some (TypeDesc.slice 4) := by kernel_rfl
theorem u32 : Try.prog.underlying 32 = some (TypeDesc.struct #[{ name := "N", type := 3, offset := 0, embedded := false, tag := "", pkgPath := "", byteOffset := 0 }, { name := "S", type := 3, offset := 1, embedded := false, tag := "", pkgPath := "", byteOffset := 8 }, { name := "T", type := 3, offset := 2, embedded := false, tag := "", pkgPath := "", byteOffset := 16 }, { name := "First", type := 27, offset := 3, embedded := false, tag := "", pkgPath := "", byteOffset := 24 }, { name := "Head", type := 27, offset := 4, embedded := false, tag := "", pkgPath := "", byteOffset := 48 }, { name := "Rev", type := 27, offset := 5, embedded := false, tag := "", pkgPath := "", byteOffset := 72 }, { name := "Cap", type := 26, offset := 6, embedded := false, tag := "", pkgPath := "", byteOffset := 96 }, { name := "Arc", type := 27, offset := 7, embedded := false, tag := "", pkgPath := "", byteOffset := 120 }, { name := "Back", type := 30, offset := 8, embedded := false, tag := "", pkgPath := "", byteOffset := 144 }]) := by kernel_rfl
theorem u37 : Try.prog.underlying 37 = some (TypeDesc.slice 39) := by kernel_rfl
theorem u39 : Try.prog.underlying 39 = some (TypeDesc.struct #[{ name := "Who", type := 3, offset := 0, embedded := false, tag := "", pkgPath := "", byteOffset := 0 }, { name := "What", type := 5, offset := 1, embedded := false, tag := "", pkgPath := "", byteOffset := 8 }, { name := "U", type := 3, offset := 2, embedded := false, tag := "", pkgPath := "", byteOffset := 16 }, { name := "Arc", type := 3, offset := 3, embedded := false, tag := "", pkgPath := "", byteOffset := 24 }, { name := "D", type := 2, offset := 4, embedded := false, tag := "", pkgPath := "", byteOffset := 32 }, { name := "H", type := 3, offset := 5, embedded := false, tag := "", pkgPath := "", byteOffset := 40 }, { name := "Low", type := 3, offset := 6, embedded := false, tag := "", pkgPath := "", byteOffset := 48 }]) := by kernel_rfl
theorem u41 : Try.prog.underlying 41 = some (TypeDesc.struct #[{ name := "E", type := 39, offset := 0, embedded := false, tag := "", pkgPath := "", byteOffset := 0 }, { name := "Raw", type := 4, offset := 7, embedded := false, tag := "", pkgPath := "", byteOffset := 56 }, { name := "Fit", type := 5, offset := 8, embedded := false, tag := "", pkgPath := "", byteOffset := 57 }]) := by kernel_rfl
theorem u56 : Try.prog.underlying 56 = some (TypeDesc.slice 58) := by kernel_rfl
theorem u58 : Try.prog.underlying 58 = some (TypeDesc.int IntKind.u16) := by kernel_rfl
theorem u68 : Try.prog.underlying 68 = some (TypeDesc.struct #[{ name := "From", type := 3, offset := 0, embedded := false, tag := "", pkgPath := "", byteOffset := 0 }, { name := "To", type := 3, offset := 1, embedded := false, tag := "", pkgPath := "", byteOffset := 8 }, { name := "Cap", type := 2, offset := 2, embedded := false, tag := "", pkgPath := "", byteOffset := 16 }]) := by kernel_rfl
theorem u73 : Try.prog.underlying 73 = some (TypeDesc.struct #[{ name := "c", type := 32, offset := 0, embedded := false, tag := "", pkgPath := "acequia/relaxed", byteOffset := 0 }, { name := "p", type := 29, offset := 9, embedded := false, tag := "", pkgPath := "acequia/relaxed", byteOffset := 168 }]) := by kernel_rfl
theorem u98 : Try.prog.underlying 98 = some (TypeDesc.func #[3] #[4] false) := by kernel_rfl
theorem u113 : Try.prog.underlying 113 = some (TypeDesc.int IntKind.u64) := by kernel_rfl
theorem i2 : Try.prog.info? 2 = some Try.t2 := by kernel_rfl
theorem i3 : Try.prog.info? 3 = some Try.t3 := by kernel_rfl
theorem i4 : Try.prog.info? 4 = some Try.t4 := by kernel_rfl
theorem i5 : Try.prog.info? 5 = some Try.t5 := by kernel_rfl
theorem i22 : Try.prog.info? 22 = some Try.t22 := by kernel_rfl
theorem i24 : Try.prog.info? 24 = some Try.t24 := by kernel_rfl
theorem i26 : Try.prog.info? 26 = some Try.t26 := by kernel_rfl
theorem i27 : Try.prog.info? 27 = some Try.t27 := by kernel_rfl
theorem i29 : Try.prog.info? 29 = some Try.t29 := by kernel_rfl
theorem i30 : Try.prog.info? 30 = some Try.t30 := by kernel_rfl
theorem i32 : Try.prog.info? 32 = some Try.t32 := by kernel_rfl
theorem i39 : Try.prog.info? 39 = some Try.t39 := by kernel_rfl
theorem i41 : Try.prog.info? 41 = some Try.t41 := by kernel_rfl
theorem i58 : Try.prog.info? 58 = some Try.t58 := by kernel_rfl
theorem i68 : Try.prog.info? 68 = some Try.t68 := by kernel_rfl
theorem i73 : Try.prog.info? 73 = some Try.t73 := by kernel_rfl
theorem i98 : Try.prog.info? 98 = some Try.t98 := by kernel_rfl
instance : TyOff Try.prog 24 0 0 := ⟨⟨_, _, u24, rfl, rfl, _, i3, by decide⟩⟩
instance : TyOff Try.prog 24 1 1 := ⟨⟨_, _, u24, rfl, rfl, _, i3, by decide⟩⟩
instance : TyOff Try.prog 24 2 2 := ⟨⟨_, _, u24, rfl, rfl, _, i3, by decide⟩⟩
instance : TyOff Try.prog 24 3 3 := ⟨⟨_, _, u24, rfl, rfl, _, i22, by decide⟩⟩
instance : TyOff Try.prog 29 0 0 := ⟨⟨_, _, u29, rfl, rfl, _, i26, by decide⟩⟩
instance : TyOff Try.prog 29 1 1 := ⟨⟨_, _, u29, rfl, rfl, _, i26, by decide⟩⟩
instance : TyOff Try.prog 29 2 2 := ⟨⟨_, _, u29, rfl, rfl, _, i27, by decide⟩⟩
instance : TyOff Try.prog 32 0 0 := ⟨⟨_, _, u32, rfl, rfl, _, i3, by decide⟩⟩
instance : TyOff Try.prog 32 1 1 := ⟨⟨_, _, u32, rfl, rfl, _, i3, by decide⟩⟩
instance : TyOff Try.prog 32 2 2 := ⟨⟨_, _, u32, rfl, rfl, _, i3, by decide⟩⟩
instance : TyOff Try.prog 32 3 3 := ⟨⟨_, _, u32, rfl, rfl, _, i27, by decide⟩⟩
instance : TyOff Try.prog 32 4 4 := ⟨⟨_, _, u32, rfl, rfl, _, i27, by decide⟩⟩
instance : TyOff Try.prog 32 5 5 := ⟨⟨_, _, u32, rfl, rfl, _, i27, by decide⟩⟩
instance : TyOff Try.prog 32 6 6 := ⟨⟨_, _, u32, rfl, rfl, _, i26, by decide⟩⟩
instance : TyOff Try.prog 32 7 7 := ⟨⟨_, _, u32, rfl, rfl, _, i27, by decide⟩⟩
instance : TyOff Try.prog 32 8 8 := ⟨⟨_, _, u32, rfl, rfl, _, i30, by decide⟩⟩
instance : TyOff Try.prog 39 1 1 := ⟨⟨_, _, u39, rfl, rfl, _, i5, by decide⟩⟩
instance : TyOff Try.prog 39 2 2 := ⟨⟨_, _, u39, rfl, rfl, _, i3, by decide⟩⟩
instance : TyOff Try.prog 39 3 3 := ⟨⟨_, _, u39, rfl, rfl, _, i3, by decide⟩⟩
instance : TyOff Try.prog 39 4 4 := ⟨⟨_, _, u39, rfl, rfl, _, i2, by decide⟩⟩
instance : TyOff Try.prog 39 5 5 := ⟨⟨_, _, u39, rfl, rfl, _, i3, by decide⟩⟩
instance : TyOff Try.prog 39 6 6 := ⟨⟨_, _, u39, rfl, rfl, _, i3, by decide⟩⟩
instance : TyOff Try.prog 41 0 0 := ⟨⟨_, _, u41, rfl, rfl, _, i39, by decide⟩⟩
instance : TyOff Try.prog 41 1 7 := ⟨⟨_, _, u41, rfl, rfl, _, i4, by decide⟩⟩
instance : TyOff Try.prog 41 2 8 := ⟨⟨_, _, u41, rfl, rfl, _, i5, by decide⟩⟩
instance : TyOff Try.prog 68 0 0 := ⟨⟨_, _, u68, rfl, rfl, _, i3, by decide⟩⟩
instance : TyOff Try.prog 68 1 1 := ⟨⟨_, _, u68, rfl, rfl, _, i3, by decide⟩⟩
instance : TyOff Try.prog 68 2 2 := ⟨⟨_, _, u68, rfl, rfl, _, i2, by decide⟩⟩
instance : TyOff Try.prog 73 0 0 := ⟨⟨_, _, u73, rfl, rfl, _, i32, by decide⟩⟩
instance : TyOff Try.prog 73 1 9 := ⟨⟨_, _, u73, rfl, rfl, _, i29, by decide⟩⟩
instance : TyAgg Try.prog 24 4 := ⟨.inl ⟨_, u24⟩, ⟨_, i24, rfl⟩⟩
instance : TyAgg Try.prog 29 3 := ⟨.inl ⟨_, u29⟩, ⟨_, i29, rfl⟩⟩
instance : TyAgg Try.prog 32 9 := ⟨.inl ⟨_, u32⟩, ⟨_, i32, rfl⟩⟩
instance : TyAgg Try.prog 39 7 := ⟨.inl ⟨_, u39⟩, ⟨_, i39, rfl⟩⟩
instance : TyAgg Try.prog 41 9 := ⟨.inl ⟨_, u41⟩, ⟨_, i41, rfl⟩⟩
instance : TyAgg Try.prog 68 3 := ⟨.inl ⟨_, u68⟩, ⟨_, i68, rfl⟩⟩
instance : TyAgg Try.prog 73 12 := ⟨.inl ⟨_, u73⟩, ⟨_, i73, rfl⟩⟩
instance : TyOne Try.prog 2 := ⟨⟨_, u2, (fun _ h => by cases h), (fun _ _ h => by cases h)⟩, ⟨_, i2, rfl⟩⟩
instance : TyOne Try.prog 3 := ⟨⟨_, u3, (fun _ h => by cases h), (fun _ _ h => by cases h)⟩, ⟨_, i3, rfl⟩⟩
instance : TyOne Try.prog 4 := ⟨⟨_, u4, (fun _ h => by cases h), (fun _ _ h => by cases h)⟩, ⟨_, i4, rfl⟩⟩
instance : TyOne Try.prog 5 := ⟨⟨_, u5, (fun _ h => by cases h), (fun _ _ h => by cases h)⟩, ⟨_, i5, rfl⟩⟩
instance : TyOne Try.prog 22 := ⟨⟨_, u22, (fun _ h => by cases h), (fun _ _ h => by cases h)⟩, ⟨_, i22, rfl⟩⟩
instance : TyOne Try.prog 26 := ⟨⟨_, u26, (fun _ h => by cases h), (fun _ _ h => by cases h)⟩, ⟨_, i26, rfl⟩⟩
instance : TyOne Try.prog 27 := ⟨⟨_, u27, (fun _ h => by cases h), (fun _ _ h => by cases h)⟩, ⟨_, i27, rfl⟩⟩
instance : TyOne Try.prog 30 := ⟨⟨_, u30, (fun _ h => by cases h), (fun _ _ h => by cases h)⟩, ⟨_, i30, rfl⟩⟩
instance : TyOne Try.prog 58 := ⟨⟨_, u58, (fun _ h => by cases h), (fun _ _ h => by cases h)⟩, ⟨_, i58, rfl⟩⟩
instance : TyOne Try.prog 98 := ⟨⟨_, u98, (fun _ h => by cases h), (fun _ _ h => by cases h)⟩, ⟨_, i98, rfl⟩⟩
instance : TySl Try.prog 22 68 3 24 [(Value.int IntKind.i64 0), (Value.int IntKind.i64 0), (Value.int IntKind.i64 0)] := ⟨u22, _, _, i68, rfl, rfl, by decide, rfl, rfl, rfl⟩
instance : TySl Try.prog 25 41 9 64 [(Value.int IntKind.i64 0), (Value.int IntKind.u8 0), (Value.int IntKind.i64 0), (Value.int IntKind.i64 0), (Value.int IntKind.i64 0), (Value.int IntKind.i64 0), (Value.int IntKind.i64 0), (Value.bool false), (Value.int IntKind.u8 0)] := ⟨u25, _, _, i41, rfl, rfl, by decide, rfl, rfl, rfl⟩
instance : TySl Try.prog 26 2 1 8 [(Value.int IntKind.i64 0)] := ⟨u26, _, _, i2, rfl, rfl, by decide, rfl, rfl, rfl⟩
instance : TySl Try.prog 27 3 1 8 [(Value.int IntKind.i64 0)] := ⟨u27, _, _, i3, rfl, rfl, by decide, rfl, rfl, rfl⟩
instance : TySl Try.prog 30 4 1 1 [(Value.bool false)] := ⟨u30, _, _, i4, rfl, rfl, by decide, rfl, rfl, rfl⟩
instance : TySl Try.prog 37 39 7 56 [(Value.int IntKind.i64 0), (Value.int IntKind.u8 0), (Value.int IntKind.i64 0), (Value.int IntKind.i64 0), (Value.int IntKind.i64 0), (Value.int IntKind.i64 0), (Value.int IntKind.i64 0)] := ⟨u37, _, _, i39, rfl, rfl, by decide, rfl, rfl, rfl⟩
instance : TySl Try.prog 56 58 1 2 [(Value.int IntKind.u16 0)] := ⟨u56, _, _, i58, rfl, rfl, by decide, rfl, rfl, rfl⟩
instance : TyZero Try.prog 3 (Value.int IntKind.i64 0) := ⟨⟨_, i3, rfl⟩⟩
instance : TyZero Try.prog 4 (Value.bool false) := ⟨⟨_, i4, rfl⟩⟩
instance : TyZero Try.prog 24 (Value.agg #[(Value.int IntKind.i64 0), (Value.int IntKind.i64 0), (Value.int IntKind.i64 0), (Value.slice none 0 0)]) := ⟨⟨_, i24, rfl⟩⟩
instance : TyZero Try.prog 27 (Value.slice none 0 0) := ⟨⟨_, i27, rfl⟩⟩
instance : TyZero Try.prog 29 (Value.agg #[(Value.slice none 0 0), (Value.slice none 0 0), (Value.slice none 0 0)]) := ⟨⟨_, i29, rfl⟩⟩
instance : TyZero Try.prog 32 (Value.agg #[(Value.int IntKind.i64 0), (Value.int IntKind.i64 0), (Value.int IntKind.i64 0), (Value.slice none 0 0), (Value.slice none 0 0), (Value.slice none 0 0), (Value.slice none 0 0), (Value.slice none 0 0), (Value.slice none 0 0)]) := ⟨⟨_, i32, rfl⟩⟩
instance : TyZero Try.prog 39 (Value.agg #[(Value.int IntKind.i64 0), (Value.int IntKind.u8 0), (Value.int IntKind.i64 0), (Value.int IntKind.i64 0), (Value.int IntKind.i64 0), (Value.int IntKind.i64 0), (Value.int IntKind.i64 0)]) := ⟨⟨_, i39, rfl⟩⟩
instance : TyZero Try.prog 41 (Value.agg #[(Value.int IntKind.i64 0), (Value.int IntKind.u8 0), (Value.int IntKind.i64 0), (Value.int IntKind.i64 0), (Value.int IntKind.i64 0), (Value.int IntKind.i64 0), (Value.int IntKind.i64 0), (Value.bool false), (Value.int IntKind.u8 0)]) := ⟨⟨_, i41, rfl⟩⟩
instance : TyZero Try.prog 68 (Value.agg #[(Value.int IntKind.i64 0), (Value.int IntKind.i64 0), (Value.int IntKind.i64 0)]) := ⟨⟨_, i68, rfl⟩⟩
instance : TyZero Try.prog 73 (Value.agg #[(Value.int IntKind.i64 0), (Value.int IntKind.i64 0), (Value.int IntKind.i64 0), (Value.slice none 0 0), (Value.slice none 0 0), (Value.slice none 0 0), (Value.slice none 0 0), (Value.slice none 0 0), (Value.slice none 0 0), (Value.slice none 0 0), (Value.slice none 0 0), (Value.slice none 0 0)]) := ⟨⟨_, i73, rfl⟩⟩
instance : TyZeroC Try.prog 3 [.val ((Value.int IntKind.i64 0))] := ⟨⟨_, inferInstance, rfl⟩⟩
instance : TyZeroC Try.prog 4 [.val ((Value.bool false))] := ⟨⟨_, inferInstance, rfl⟩⟩
instance : TyZeroC Try.prog 24 [.val ((Value.int IntKind.i64 0)), .val ((Value.int IntKind.i64 0)), .val ((Value.int IntKind.i64 0)), .val ((Value.slice none 0 0))] := ⟨⟨_, inferInstance, rfl⟩⟩
instance : TyZeroC Try.prog 27 [.val ((Value.slice none 0 0))] := ⟨⟨_, inferInstance, rfl⟩⟩
instance : TyZeroC Try.prog 29 [.val ((Value.slice none 0 0)), .val ((Value.slice none 0 0)), .val ((Value.slice none 0 0))] := ⟨⟨_, inferInstance, rfl⟩⟩
instance : TyZeroC Try.prog 32 [.val ((Value.int IntKind.i64 0)), .val ((Value.int IntKind.i64 0)), .val ((Value.int IntKind.i64 0)), .val ((Value.slice none 0 0)), .val ((Value.slice none 0 0)), .val ((Value.slice none 0 0)), .val ((Value.slice none 0 0)), .val ((Value.slice none 0 0)), .val ((Value.slice none 0 0))] := ⟨⟨_, inferInstance, rfl⟩⟩
instance : TyZeroC Try.prog 39 [.val ((Value.int IntKind.i64 0)), .val ((Value.int IntKind.u8 0)), .val ((Value.int IntKind.i64 0)), .val ((Value.int IntKind.i64 0)), .val ((Value.int IntKind.i64 0)), .val ((Value.int IntKind.i64 0)), .val ((Value.int IntKind.i64 0))] := ⟨⟨_, inferInstance, rfl⟩⟩
instance : TyZeroC Try.prog 41 [.val ((Value.int IntKind.i64 0)), .val ((Value.int IntKind.u8 0)), .val ((Value.int IntKind.i64 0)), .val ((Value.int IntKind.i64 0)), .val ((Value.int IntKind.i64 0)), .val ((Value.int IntKind.i64 0)), .val ((Value.int IntKind.i64 0)), .val ((Value.bool false)), .val ((Value.int IntKind.u8 0))] := ⟨⟨_, inferInstance, rfl⟩⟩
instance : TyZeroC Try.prog 68 [.val ((Value.int IntKind.i64 0)), .val ((Value.int IntKind.i64 0)), .val ((Value.int IntKind.i64 0))] := ⟨⟨_, inferInstance, rfl⟩⟩
instance : TyZeroC Try.prog 73 [.val ((Value.int IntKind.i64 0)), .val ((Value.int IntKind.i64 0)), .val ((Value.int IntKind.i64 0)), .val ((Value.slice none 0 0)), .val ((Value.slice none 0 0)), .val ((Value.slice none 0 0)), .val ((Value.slice none 0 0)), .val ((Value.slice none 0 0)), .val ((Value.slice none 0 0)), .val ((Value.slice none 0 0)), .val ((Value.slice none 0 0)), .val ((Value.slice none 0 0))] := ⟨⟨_, inferInstance, rfl⟩⟩
instance : TyInt Try.prog 3 IntKind.i64 := ⟨u3⟩
instance : TyInt Try.prog 58 IntKind.u16 := ⟨u58⟩
instance : TyInt Try.prog 113 IntKind.u64 := ⟨u113⟩
instance : TyBuild Try.prog 24 [(0, 1), (1, 1), (2, 1), (3, 1)] [(Value.int IntKind.i64 0), (Value.int IntKind.i64 0), (Value.int IntKind.i64 0), (Value.slice none 0 0)] := ⟨fun w => ⟨_, u24, run_zero i24 rfl, by simp [sizeOf, typeInfo, i3, i3, i3, i22] <;> (try and_intros) <;> rfl⟩⟩
instance : TyBuild Try.prog 29 [(0, 1), (1, 1), (2, 1)] [(Value.slice none 0 0), (Value.slice none 0 0), (Value.slice none 0 0)] := ⟨fun w => ⟨_, u29, run_zero i29 rfl, by simp [sizeOf, typeInfo, i26, i26, i27] <;> (try and_intros) <;> rfl⟩⟩
instance : TyBuild Try.prog 32 [(0, 1), (1, 1), (2, 1), (3, 1), (4, 1), (5, 1), (6, 1), (7, 1), (8, 1)] [(Value.int IntKind.i64 0), (Value.int IntKind.i64 0), (Value.int IntKind.i64 0), (Value.slice none 0 0), (Value.slice none 0 0), (Value.slice none 0 0), (Value.slice none 0 0), (Value.slice none 0 0), (Value.slice none 0 0)] := ⟨fun w => ⟨_, u32, run_zero i32 rfl, by simp [sizeOf, typeInfo, i3, i3, i3, i27, i27, i27, i26, i27, i30] <;> (try and_intros) <;> rfl⟩⟩
instance : TyBuild Try.prog 39 [(0, 1), (1, 1), (2, 1), (3, 1), (4, 1), (5, 1), (6, 1)] [(Value.int IntKind.i64 0), (Value.int IntKind.u8 0), (Value.int IntKind.i64 0), (Value.int IntKind.i64 0), (Value.int IntKind.i64 0), (Value.int IntKind.i64 0), (Value.int IntKind.i64 0)] := ⟨fun w => ⟨_, u39, run_zero i39 rfl, by simp [sizeOf, typeInfo, i3, i5, i3, i3, i2, i3, i3] <;> (try and_intros) <;> rfl⟩⟩
instance : TyBuild Try.prog 68 [(0, 1), (1, 1), (2, 1)] [(Value.int IntKind.i64 0), (Value.int IntKind.i64 0), (Value.int IntKind.i64 0)] := ⟨fun w => ⟨_, u68, run_zero i68 rfl, by simp [sizeOf, typeInfo, i3, i3, i2] <;> (try and_intros) <;> rfl⟩⟩
instance : TyBuild Try.prog 73 [(0, 9), (9, 3)] [(Value.int IntKind.i64 0), (Value.int IntKind.i64 0), (Value.int IntKind.i64 0), (Value.slice none 0 0), (Value.slice none 0 0), (Value.slice none 0 0), (Value.slice none 0 0), (Value.slice none 0 0), (Value.slice none 0 0), (Value.slice none 0 0), (Value.slice none 0 0), (Value.slice none 0 0)] := ⟨fun w => ⟨_, u73, run_zero i73 rfl, by simp [sizeOf, typeInfo, i32, i29] <;> (try and_intros) <;> rfl⟩⟩
instance : FnOK Try.prog 8 := ⟨⟨_, Try.func8, by decide, rfl⟩⟩
instance : FnOK Try.prog 9 := ⟨⟨_, Try.func9, by decide, rfl⟩⟩
instance : FnOK Try.prog 10 := ⟨⟨_, Try.func10, by decide, rfl⟩⟩
instance : FnOK Try.prog 11 := ⟨⟨_, Try.func11, by decide, rfl⟩⟩
instance : FnOK Try.prog 12 := ⟨⟨_, Try.func12, by decide, rfl⟩⟩
instance : FnOK Try.prog 13 := ⟨⟨_, Try.func13, by decide, rfl⟩⟩
instance : FnOK Try.prog 14 := ⟨⟨_, Try.func14, by decide, rfl⟩⟩
instance : FnOK Try.prog 15 := ⟨⟨_, Try.func15, by decide, rfl⟩⟩
instance : FnOK Try.prog 16 := ⟨⟨_, Try.func16, by decide, rfl⟩⟩
instance : FnOK Try.prog 17 := ⟨⟨_, Try.func17, by decide, rfl⟩⟩
instance : FnOK Try.prog 18 := ⟨⟨_, Try.func18, by decide, rfl⟩⟩
instance : FnOK Try.prog 19 := ⟨⟨_, Try.func19, by decide, rfl⟩⟩
instance : FnOK Try.prog 20 := ⟨⟨_, Try.func20, by decide, rfl⟩⟩
instance : FnOK Try.prog 21 := ⟨⟨_, Try.func21, by decide, rfl⟩⟩
instance : FnOK Try.prog 22 := ⟨⟨_, Try.func22, by decide, rfl⟩⟩
instance : FnOK Try.prog 23 := ⟨⟨_, Try.func23, by decide, rfl⟩⟩
instance : FnOK Try.prog 24 := ⟨⟨_, Try.func24, by decide, rfl⟩⟩
instance : FnOK Try.prog 25 := ⟨⟨_, Try.func25, by decide, rfl⟩⟩
instance : FnOK Try.prog 26 := ⟨⟨_, Try.func26, by decide, rfl⟩⟩
instance : FnOK Try.prog 27 := ⟨⟨_, Try.func27, by decide, rfl⟩⟩
instance : FnOK Try.prog 28 := ⟨⟨_, Try.func28, by decide, rfl⟩⟩
instance : FnOK Try.prog 29 := ⟨⟨_, Try.func29, by decide, rfl⟩⟩
instance : FnOK Try.prog 30 := ⟨⟨_, Try.func30, by decide, rfl⟩⟩
instance : FnOK Try.prog 31 := ⟨⟨_, Try.func31, by decide, rfl⟩⟩
instance : FnOK Try.prog 32 := ⟨⟨_, Try.func32, by decide, rfl⟩⟩
instance : FnOK Try.prog 33 := ⟨⟨_, Try.func33, by decide, rfl⟩⟩
instance : FnOK Try.prog 34 := ⟨⟨_, Try.func34, by decide, rfl⟩⟩
instance : FnOK Try.prog 35 := ⟨⟨_, Try.func35, by decide, rfl⟩⟩
instance : FnOK Try.prog 36 := ⟨⟨_, Try.func36, by decide, rfl⟩⟩
instance : FnOK Try.prog 37 := ⟨⟨_, Try.func37, by decide, rfl⟩⟩
instance : FnOK Try.prog 38 := ⟨⟨_, Try.func38, by decide, rfl⟩⟩
instance : FnOK Try.prog 39 := ⟨⟨_, Try.func39, by decide, rfl⟩⟩
instance : FnOK Try.prog 40 := ⟨⟨_, Try.func40, by decide, rfl⟩⟩
instance : FnOK Try.prog 41 := ⟨⟨_, Try.func41, by decide, rfl⟩⟩
instance : FnOK Try.prog 42 := ⟨⟨_, Try.func42, by decide, rfl⟩⟩
instance : FnOK Try.prog 43 := ⟨⟨_, Try.func43, by decide, rfl⟩⟩
instance : FnOK Try.prog 44 := ⟨⟨_, Try.func44, by decide, rfl⟩⟩
instance : FnOK Try.prog 45 := ⟨⟨_, Try.func45, by decide, rfl⟩⟩
instance : FnOK Try.prog 46 := ⟨⟨_, Try.func46, by decide, rfl⟩⟩
instance : FnOK Try.prog 47 := ⟨⟨_, Try.func47, by decide, rfl⟩⟩
instance : FnOK Try.prog 48 := ⟨⟨_, Try.func48, by decide, rfl⟩⟩
instance : FnOK Try.prog 49 := ⟨⟨_, Try.func49, by decide, rfl⟩⟩
instance : FnOK Try.prog 50 := ⟨⟨_, Try.func50, by decide, rfl⟩⟩
instance : FnOK Try.prog 51 := ⟨⟨_, Try.func51, by decide, rfl⟩⟩
instance : FnOK Try.prog 52 := ⟨⟨_, Try.func52, by decide, rfl⟩⟩
instance : FnOK Try.prog 53 := ⟨⟨_, Try.func53, by decide, rfl⟩⟩
instance : FnOK Try.prog 54 := ⟨⟨_, Try.func54, by decide, rfl⟩⟩
instance : FnOK Try.prog 55 := ⟨⟨_, Try.func55, by decide, rfl⟩⟩
instance : FnOK Try.prog 56 := ⟨⟨_, Try.func56, by decide, rfl⟩⟩
instance : FnOK Try.prog 57 := ⟨⟨_, Try.func57, by decide, rfl⟩⟩
instance : FnOK Try.prog 58 := ⟨⟨_, Try.func58, by decide, rfl⟩⟩
instance : FnOK Try.prog 59 := ⟨⟨_, Try.func59, by decide, rfl⟩⟩
instance : FnOK Try.prog 60 := ⟨⟨_, Try.func60, by decide, rfl⟩⟩
instance : FnOK Try.prog 61 := ⟨⟨_, Try.func61, by decide, rfl⟩⟩
instance : FnOK Try.prog 62 := ⟨⟨_, Try.func62, by decide, rfl⟩⟩
instance : FnOK Try.prog 63 := ⟨⟨_, Try.func63, by decide, rfl⟩⟩
instance : FnOK Try.prog 64 := ⟨⟨_, Try.func64, by decide, rfl⟩⟩
instance : FnOK Try.prog 65 := ⟨⟨_, Try.func65, by decide, rfl⟩⟩
instance : FnOK Try.prog 66 := ⟨⟨_, Try.func66, by decide, rfl⟩⟩
instance : FnOK Try.prog 67 := ⟨⟨_, Try.func67, by decide, rfl⟩⟩
instance : FnOK Try.prog 68 := ⟨⟨_, Try.func68, by decide, rfl⟩⟩
instance : FnOK Try.prog 69 := ⟨⟨_, Try.func69, by decide, rfl⟩⟩
instance : FnOK Try.prog 70 := ⟨⟨_, Try.func70, by decide, rfl⟩⟩
instance : FnOK Try.prog 71 := ⟨⟨_, Try.func71, by decide, rfl⟩⟩
instance : FnOK Try.prog 72 := ⟨⟨_, Try.func72, by decide, rfl⟩⟩
instance : FnOK Try.prog 73 := ⟨⟨_, Try.func73, by decide, rfl⟩⟩
instance : FnOK Try.prog 74 := ⟨⟨_, Try.func74, by decide, rfl⟩⟩
instance : FnOK Try.prog 75 := ⟨⟨_, Try.func75, by decide, rfl⟩⟩
instance : FnOK Try.prog 76 := ⟨⟨_, Try.func76, by decide, rfl⟩⟩
instance : FnOK Try.prog 77 := ⟨⟨_, Try.func77, by decide, rfl⟩⟩
instance : FnOK Try.prog 78 := ⟨⟨_, Try.func78, by decide, rfl⟩⟩
instance : FnOK Try.prog 79 := ⟨⟨_, Try.func79, by decide, rfl⟩⟩
theorem mixed : Try.prog.follows .mixedOrders = true := by kernel_rfl
end Go.Proofs

set_option linter.unusedVariables false
namespace Go.Proofs
open Go Go.Sx Go.RowKit
/-- A number from 0 on, below n, out of any. -/
def Among (x n : Int) : Int := if n < 1 then 0 else x % n
theorem among_val {x n : Int} (hn : 1 ≤ n) : ((x.tmod n) + n).tmod n = Among x n := by
  have h1 := Int.tmod_add_mul_tdiv x n
  have h2 := Int.emod_add_mul_ediv x n
  have h3 := Int.tmod_lt_of_pos x (b := n) (by omega)
  have h4 : -n < x.tmod n := Int.lt_tmod_of_pos x (by omega)
  rw [Int.tmod_eq_emod_of_nonneg (by omega)]
  unfold Among
  rw [if_neg (by omega), Int.add_emod_right]
  conv => rhs; rw [← h1]
  rw [Int.add_mul_emod_self_left]
theorem t_Among (x n : Int) (hn : n < 4611686018427387904) : Tri Try.prog 30 [.val (.int .i64 x), .val (.int .i64 n)] [] (fun s H => s = .val (.int .i64 (Among x n)) ∧ H = []) := by
  refine tri_of_w (fn := Try.f30) Try.func30 rfl (by simp [Try.f30]) ?_
  intro ρ w hρ
  refine w_seq ?_
  refine w_region ?_
  refine rw_t 4 rfl rfl rfl (do_assign rfl ?_)
  refine rw_nil ?_
  refine w_seq ?_
  refine w_seq ?_
  refine w_region ?_
  refine rw_t 5 rfl rfl rfl (do_move rfl ?_)
  refine rw_t 6 rfl rfl rfl (do_bin rfl rfl rfl ?_)
  refine rw_nil ?_
  refine w_cond rfl (fun hc1 => ?_) (fun hc1 => ?_)
  all_goals simp at hc1
  · refine w_seq ?_
    refine w_region ?_
    refine rw_t 4 rfl rfl rfl (do_assign rfl ?_)
    refine rw_nil ?_
    refine w_ret ?_
    exact ret_eq (.inl rfl) (.cons (res_tmp rfl) .nil) [] (val_congr (by unfold Among; rw [if_pos hc1])) trivial rfl (pre_ok rfl)
  refine w_skip ?_
  refine w_seq ?_
  refine w_region ?_
  refine rw_t 7 rfl rfl rfl (do_move rfl ?_)
  refine rw_t 8 rfl rfl rfl (do_move rfl ?_)
  refine rw_t 9 rfl rfl rfl (do_rem rfl rfl (by omega) ?_)
  refine rw_t 10 rfl rfl rfl (do_move rfl ?_)
  refine rw_t 11 rfl rfl rfl (do_add rfl rfl (by have h3 := Int.tmod_lt_of_pos x (b := n) (by omega); have h4 := Int.lt_tmod_of_pos x (b := n) (by omega); omega) ?_)
  refine rw_t 12 rfl rfl rfl (do_move rfl ?_)
  refine rw_t 13 rfl rfl rfl (do_rem rfl rfl (by omega) ?_)
  refine rw_t 4 rfl rfl rfl (do_assign rfl ?_)
  refine rw_nil ?_
  refine w_ret ?_
  exact ret_eq (.inl rfl) (.cons (res_tmp rfl) .nil) [] (val_congr (among_val hc1)) trivial rfl (pre_ok rfl)
end Go.Proofs

set_option linter.unusedVariables false
namespace Go.Proofs
open Go Go.Sx Go.RowKit
theorem eq_of_take {a b : List Int} {i : Nat} (h : a.length = b.length) (hi : a.length ≤ i) (ht : a.take i = b.take i) : a = b := by
  rwa [List.take_of_length_le hi, List.take_of_length_le (by omega)] at ht
theorem take_next {a b : List Int} {i : Nat} (ha : i < a.length) (hb : i < b.length) (ht : a.take i = b.take i) (h : a.getD i 0 = b.getD i 0) : a.take (i + 1) = b.take (i + 1) := by
  rw [List.take_succ_eq_append_getElem ha, List.take_succ_eq_append_getElem hb, ht]
  simp [List.getD, List.getElem?_eq_getElem ha, List.getElem?_eq_getElem hb] at h
  rw [h]
set_option maxHeartbeats 8000000 in
theorem t_Ints (a b : List Int) (hl : a.length < 4611686018427387904) : Tri Try.prog 38 [.slc 0 0 a.length none, .slc 1 0 b.length none] [.ints false .i64 a, .ints false .i64 b] (fun s H => s = .val (.bool (decide (a = b))) ∧ H = [.ints false .i64 a, .ints false .i64 b]) := by
  refine tri_of_w (fn := Try.f38) Try.func38 rfl (by simp [Try.f38]) ?_
  intro ρ w hρ
  refine w_seq ?_
  refine w_region ?_
  refine rw_t 4 rfl rfl rfl (do_assign rfl ?_)
  refine rw_nil ?_
  refine w_seq ?_
  refine w_seq ?_
  refine w_region ?_
  refine rw_t 6 rfl rfl rfl (do_move rfl ?_)
  refine rw_t 7 rfl rfl rfl (do_len rfl ?_)
  refine rw_t 8 rfl rfl rfl (do_move rfl ?_)
  refine rw_t 9 rfl rfl rfl (do_len rfl ?_)
  refine rw_t 10 rfl rfl rfl (do_bin rfl rfl rfl ?_)
  refine rw_nil ?_
  refine w_cond rfl (fun hc1 => ?_) (fun hc1 => ?_)
  all_goals simp only [bs] at hc1
  · refine w_seq ?_
    refine w_region ?_
    refine rw_t 4 rfl rfl rfl (do_assign rfl ?_)
    refine rw_nil ?_
    refine w_ret ?_
    exact ret_eq (.inl rfl) (.cons (res_tmp rfl) .nil) [0, 1] (bool_congr (decide_eq_false (fun h => hc1 (by rw [h]))).symm) ⟨shR rfl, shR rfl, trivial⟩ rfl (pre_ok rfl)
  refine w_skip ?_
  refine w_seq ?_
  refine w_seq ?_
  refine w_region ?_
  refine rw_t 11 rfl rfl rfl (do_move rfl ?_)
  refine rw_t 12 rfl rfl rfl (do_len rfl ?_)
  refine rw_t 13 rfl rfl rfl (do_move rfl ?_)
  refine rw_nil ?_
  refine w_block ?_ -- block 0
  have hab : a.length = b.length := by omega
  refine w_loopS (ι := Nat) (fun i => [(13, .val (.int .i64 ((i : Nat)))), (12, .val (.int .i64 ((a.length : Nat)))), (0, .slc 0 0 a.length none), (1, .slc 1 0 b.length none)]) (fun i => [.ints false .i64 a, .ints false .i64 b]) (fun i => a.length - i) (fun i => i ≤ a.length ∧ a.take i = b.take i) (0) [0, 1] (by simp) ⟨shR rfl, shR rfl, trivial⟩ rfl (pre_ok rfl) hρ ⟨⟨_, rfl, rfl⟩, ⟨_, rfl, rfl⟩, ⟨_, rfl, rfl⟩, ⟨_, rfl, rfl⟩, trivial⟩ ?_
  intro i hi
  refine w_seq ?_
  refine w_region ?_
  refine rw_t 14 rfl rfl rfl (do_bin rfl rfl rfl ?_)
  refine rw_nil ?_
  refine w_seq ?_
  refine w_cond rfl (fun hc2 => ?_) (fun hc2 => ?_)
  all_goals simp only [bs] at hc2
  rotate_left
  · refine w_exit ?_
    refine w_seq ?_
    refine w_region ?_
    refine rw_t 4 rfl rfl rfl (do_assign rfl ?_)
    refine rw_nil ?_
    refine w_ret ?_
    exact ret_eq (.inl rfl) (.cons (res_tmp rfl) .nil) [0, 1] (bool_congr (decide_eq_true (eq_of_take hab (by omega) hi.2)).symm) ⟨shR rfl, shR rfl, trivial⟩ rfl (pre_ok rfl)
  refine w_skip ?_
  refine w_seq ?_
  refine w_block ?_ -- block 1
  refine w_seq ?_
  refine w_region ?_
  refine rw_t 15 rfl rfl rfl (do_move rfl ?_)
  refine rw_t 5 rfl rfl rfl (do_assign rfl ?_)
  refine rw_nil ?_
  refine w_seq ?_
  refine w_draw mixed [0, 0, 3, 7, 0, 0, 48, 112] [255] (by kernel_rfl) (by kernel_rfl) rfl rfl rfl (hle hρ rfl) ?_
  refine ra_q (j := 0) rfl rfl rfl rfl (do_move rfl ⟨rfl, rfl⟩) (by rfl) ?_
  refine ra_q (j := 1) rfl rfl rfl rfl (do_move rfl ⟨rfl, rfl⟩) (by rfl) ?_
  first
    | refine ra_q (j := 2) rfl rfl rfl rfl (do_ixn rfl rfl rfl (by omega) ⟨rfl, rfl⟩) (by rfl) ?_
    | refine ra_q (j := 2) rfl rfl rfl rfl (do_ix0 rfl rfl rfl (by omega) ⟨rfl, rfl⟩) (by rfl) ?_
    | refine ra_q (j := 2) rfl rfl rfl rfl (do_ix rfl rfl rfl (by omega) ⟨rfl, rfl⟩) (by rfl) ?_
  first
    | refine ra_q (j := 3) rfl rfl rfl rfl (do_load_box rfl rfl rfl ⟨rfl, rfl⟩) (by rfl) ?_
    | refine ra_q (j := 3) rfl rfl rfl rfl (do_load_arr rfl rfl (by omega) rfl ⟨rfl, rfl⟩) (by rfl) ?_
    | refine ra_q (j := 3) rfl rfl rfl rfl (n_load_boxagg [_] rfl rfl (Nat.le_of_ble_eq_true rfl) rfl ⟨rfl, rfl⟩) (by rfl) ?_
    | refine ra_q (j := 3) rfl rfl rfl rfl (n_load_arragg [_] rfl rfl rfl (by omega) rfl ⟨rfl, rfl⟩) (by rfl) ?_
  refine ra_q (j := 4) rfl rfl rfl rfl (do_move rfl ⟨rfl, rfl⟩) (by rfl) ?_
  refine ra_q (j := 5) rfl rfl rfl rfl (do_move rfl ⟨rfl, rfl⟩) (by rfl) ?_
  first
    | refine ra_q (j := 6) rfl rfl rfl rfl (do_ixn rfl rfl rfl (by omega) ⟨rfl, rfl⟩) (by rfl) ?_
    | refine ra_q (j := 6) rfl rfl rfl rfl (do_ix0 rfl rfl rfl (by omega) ⟨rfl, rfl⟩) (by rfl) ?_
    | refine ra_q (j := 6) rfl rfl rfl rfl (do_ix rfl rfl rfl (by omega) ⟨rfl, rfl⟩) (by rfl) ?_
  first
    | refine ra_q (j := 7) rfl rfl rfl rfl (do_load_box rfl rfl rfl ⟨rfl, rfl⟩) (by rfl) ?_
    | refine ra_q (j := 7) rfl rfl rfl rfl (do_load_arr rfl rfl (by omega) rfl ⟨rfl, rfl⟩) (by rfl) ?_
    | refine ra_q (j := 7) rfl rfl rfl rfl (n_load_boxagg [_] rfl rfl (Nat.le_of_ble_eq_true rfl) rfl ⟨rfl, rfl⟩) (by rfl) ?_
    | refine ra_q (j := 7) rfl rfl rfl rfl (n_load_arragg [_] rfl rfl rfl (by omega) rfl ⟨rfl, rfl⟩) (by rfl) ?_
  refine n_done ?_
  refine rw_t 24 rfl rfl rfl (do_bin rfl rfl rfl ?_)
  refine rw_nil ?_
  refine w_cond rfl (fun hc3 => ?_) (fun hc3 => ?_)
  all_goals simp only [bs] at hc3
  · refine w_seq ?_
    refine w_region ?_
    refine rw_t 4 rfl rfl rfl (do_assign rfl ?_)
    refine rw_nil ?_
    refine w_ret ?_
    exact ret_eq (.inl rfl) (.cons (res_tmp rfl) .nil) [0, 1] (bool_congr (decide_eq_false (fun h => hc3 (by rw [h]))).symm) ⟨shR rfl, shR rfl, trivial⟩ rfl (pre_ok rfl)
  refine w_skip ?_
  refine w_region ?_
  refine rw_t 25 rfl rfl rfl (do_add rfl rfl (by omega) ?_)
  refine rw_t 13 rfl rfl rfl (do_move rfl ?_)
  refine rw_nil ?_
  refine ⟨i + 1, [0, 1], by dsimp only; omega, ⟨by omega, take_next (by omega) (by omega) hi.2 (by simpa using hc3)⟩, ⟨shR rfl, shR rfl, trivial⟩, rfl, pre_ok rfl, ⟨⟨_, rfl, rfl⟩, ⟨_, rfl, rfl⟩, ⟨_, rfl, rfl⟩, ⟨_, rfl, rfl⟩, trivial⟩⟩
set_option maxHeartbeats 8000000 in
theorem t_Longs (a b : List Int) (hl : a.length < 4611686018427387904) : Tri Try.prog 37 [.slc 0 0 a.length none, .slc 1 0 b.length none] [.ints false .i64 a, .ints false .i64 b] (fun s H => s = .val (.bool (decide (a = b))) ∧ H = [.ints false .i64 a, .ints false .i64 b]) := by
  refine tri_of_w (fn := Try.f37) Try.func37 rfl (by simp [Try.f37]) ?_
  intro ρ w hρ
  refine w_seq ?_
  refine w_region ?_
  refine rw_t 4 rfl rfl rfl (do_assign rfl ?_)
  refine rw_nil ?_
  refine w_seq ?_
  refine w_seq ?_
  refine w_region ?_
  refine rw_t 6 rfl rfl rfl (do_move rfl ?_)
  refine rw_t 7 rfl rfl rfl (do_len rfl ?_)
  refine rw_t 8 rfl rfl rfl (do_move rfl ?_)
  refine rw_t 9 rfl rfl rfl (do_len rfl ?_)
  refine rw_t 10 rfl rfl rfl (do_bin rfl rfl rfl ?_)
  refine rw_nil ?_
  refine w_cond rfl (fun hc1 => ?_) (fun hc1 => ?_)
  all_goals simp only [bs] at hc1
  · refine w_seq ?_
    refine w_region ?_
    refine rw_t 4 rfl rfl rfl (do_assign rfl ?_)
    refine rw_nil ?_
    refine w_ret ?_
    exact ret_eq (.inl rfl) (.cons (res_tmp rfl) .nil) [0, 1] (bool_congr (decide_eq_false (fun h => hc1 (by rw [h]))).symm) ⟨shR rfl, shR rfl, trivial⟩ rfl (pre_ok rfl)
  refine w_skip ?_
  refine w_seq ?_
  refine w_seq ?_
  refine w_region ?_
  refine rw_t 11 rfl rfl rfl (do_move rfl ?_)
  refine rw_t 12 rfl rfl rfl (do_len rfl ?_)
  refine rw_t 13 rfl rfl rfl (do_move rfl ?_)
  refine rw_nil ?_
  refine w_block ?_ -- block 0
  have hab : a.length = b.length := by omega
  refine w_loopS (ι := Nat) (fun i => [(13, .val (.int .i64 ((i : Nat)))), (12, .val (.int .i64 ((a.length : Nat)))), (0, .slc 0 0 a.length none), (1, .slc 1 0 b.length none)]) (fun i => [.ints false .i64 a, .ints false .i64 b]) (fun i => a.length - i) (fun i => i ≤ a.length ∧ a.take i = b.take i) (0) [0, 1] (by simp) ⟨shR rfl, shR rfl, trivial⟩ rfl (pre_ok rfl) hρ ⟨⟨_, rfl, rfl⟩, ⟨_, rfl, rfl⟩, ⟨_, rfl, rfl⟩, ⟨_, rfl, rfl⟩, trivial⟩ ?_
  intro i hi
  refine w_seq ?_
  refine w_region ?_
  refine rw_t 14 rfl rfl rfl (do_bin rfl rfl rfl ?_)
  refine rw_nil ?_
  refine w_seq ?_
  refine w_cond rfl (fun hc2 => ?_) (fun hc2 => ?_)
  all_goals simp only [bs] at hc2
  rotate_left
  · refine w_exit ?_
    refine w_seq ?_
    refine w_region ?_
    refine rw_t 4 rfl rfl rfl (do_assign rfl ?_)
    refine rw_nil ?_
    refine w_ret ?_
    exact ret_eq (.inl rfl) (.cons (res_tmp rfl) .nil) [0, 1] (bool_congr (decide_eq_true (eq_of_take hab (by omega) hi.2)).symm) ⟨shR rfl, shR rfl, trivial⟩ rfl (pre_ok rfl)
  refine w_skip ?_
  refine w_seq ?_
  refine w_block ?_ -- block 1
  refine w_seq ?_
  refine w_region ?_
  refine rw_t 15 rfl rfl rfl (do_move rfl ?_)
  refine rw_t 5 rfl rfl rfl (do_assign rfl ?_)
  refine rw_nil ?_
  refine w_seq ?_
  refine w_draw mixed [0, 0, 3, 7, 0, 0, 48, 112] [255] (by kernel_rfl) (by kernel_rfl) rfl rfl rfl (hle hρ rfl) ?_
  refine ra_q (j := 0) rfl rfl rfl rfl (do_move rfl ⟨rfl, rfl⟩) (by rfl) ?_
  refine ra_q (j := 1) rfl rfl rfl rfl (do_move rfl ⟨rfl, rfl⟩) (by rfl) ?_
  first
    | refine ra_q (j := 2) rfl rfl rfl rfl (do_ixn rfl rfl rfl (by omega) ⟨rfl, rfl⟩) (by rfl) ?_
    | refine ra_q (j := 2) rfl rfl rfl rfl (do_ix0 rfl rfl rfl (by omega) ⟨rfl, rfl⟩) (by rfl) ?_
    | refine ra_q (j := 2) rfl rfl rfl rfl (do_ix rfl rfl rfl (by omega) ⟨rfl, rfl⟩) (by rfl) ?_
  first
    | refine ra_q (j := 3) rfl rfl rfl rfl (do_load_box rfl rfl rfl ⟨rfl, rfl⟩) (by rfl) ?_
    | refine ra_q (j := 3) rfl rfl rfl rfl (do_load_arr rfl rfl (by omega) rfl ⟨rfl, rfl⟩) (by rfl) ?_
    | refine ra_q (j := 3) rfl rfl rfl rfl (n_load_boxagg [_] rfl rfl (Nat.le_of_ble_eq_true rfl) rfl ⟨rfl, rfl⟩) (by rfl) ?_
    | refine ra_q (j := 3) rfl rfl rfl rfl (n_load_arragg [_] rfl rfl rfl (by omega) rfl ⟨rfl, rfl⟩) (by rfl) ?_
  refine ra_q (j := 4) rfl rfl rfl rfl (do_move rfl ⟨rfl, rfl⟩) (by rfl) ?_
  refine ra_q (j := 5) rfl rfl rfl rfl (do_move rfl ⟨rfl, rfl⟩) (by rfl) ?_
  first
    | refine ra_q (j := 6) rfl rfl rfl rfl (do_ixn rfl rfl rfl (by omega) ⟨rfl, rfl⟩) (by rfl) ?_
    | refine ra_q (j := 6) rfl rfl rfl rfl (do_ix0 rfl rfl rfl (by omega) ⟨rfl, rfl⟩) (by rfl) ?_
    | refine ra_q (j := 6) rfl rfl rfl rfl (do_ix rfl rfl rfl (by omega) ⟨rfl, rfl⟩) (by rfl) ?_
  first
    | refine ra_q (j := 7) rfl rfl rfl rfl (do_load_box rfl rfl rfl ⟨rfl, rfl⟩) (by rfl) ?_
    | refine ra_q (j := 7) rfl rfl rfl rfl (do_load_arr rfl rfl (by omega) rfl ⟨rfl, rfl⟩) (by rfl) ?_
    | refine ra_q (j := 7) rfl rfl rfl rfl (n_load_boxagg [_] rfl rfl (Nat.le_of_ble_eq_true rfl) rfl ⟨rfl, rfl⟩) (by rfl) ?_
    | refine ra_q (j := 7) rfl rfl rfl rfl (n_load_arragg [_] rfl rfl rfl (by omega) rfl ⟨rfl, rfl⟩) (by rfl) ?_
  refine n_done ?_
  refine rw_t 24 rfl rfl rfl (do_bin rfl rfl rfl ?_)
  refine rw_nil ?_
  refine w_cond rfl (fun hc3 => ?_) (fun hc3 => ?_)
  all_goals simp only [bs] at hc3
  · refine w_seq ?_
    refine w_region ?_
    refine rw_t 4 rfl rfl rfl (do_assign rfl ?_)
    refine rw_nil ?_
    refine w_ret ?_
    exact ret_eq (.inl rfl) (.cons (res_tmp rfl) .nil) [0, 1] (bool_congr (decide_eq_false (fun h => hc3 (by rw [h]))).symm) ⟨shR rfl, shR rfl, trivial⟩ rfl (pre_ok rfl)
  refine w_skip ?_
  refine w_region ?_
  refine rw_t 25 rfl rfl rfl (do_add rfl rfl (by omega) ?_)
  refine rw_t 13 rfl rfl rfl (do_move rfl ?_)
  refine rw_nil ?_
  refine ⟨i + 1, [0, 1], by dsimp only; omega, ⟨by omega, take_next (by omega) (by omega) hi.2 (by simpa using hc3)⟩, ⟨shR rfl, shR rfl, trivial⟩, rfl, pre_ok rfl, ⟨⟨_, rfl, rfl⟩, ⟨_, rfl, rfl⟩, ⟨_, rfl, rfl⟩, ⟨_, rfl, rfl⟩, trivial⟩⟩
end Go.Proofs

set_option linter.unusedVariables false
namespace Go.Proofs
open Go Go.Sx Go.RowKit
/-- An arc of a net; a net. -/
structure Arc where
  frm : Int
  to : Int
  cap : Int
abbrev Arc.none : Arc := ⟨0, 0, 0⟩
abbrev encArc (a : Arc) : List Value := [.int .i64 a.frm, .int .i64 a.to, .int .i64 a.cap]
abbrev SO.arcs (own : Bool) (xs : List Arc) : SO := .arr Arc own 3 encArc Arc.none xs
structure Net where
  N : Int
  S : Int
  T : Int
  arcs : List Arc
abbrev Net.sv (n : Net) (o : Nat) : SV := .agg [.val (.int .i64 n.N), .val (.int .i64 n.S), .val (.int .i64 n.T), .slc o 0 n.arcs.length none]
def capSum (l : List Arc) : Int := (l.map (·.cap)).sum
/-- A net that is right (P1.1). -/
structure NetOK (n : Net) : Prop where
  lo : 2 ≤ n.N
  hi : n.N ≤ 4096
  many : n.arcs.length ≤ 16384
  s : 0 ≤ n.S ∧ n.S < n.N
  t : 0 ≤ n.T ∧ n.T < n.N
  st : n.S ≠ n.T
  ends : ∀ a ∈ n.arcs, 0 ≤ a.frm ∧ a.frm < n.N ∧ 0 ≤ a.to ∧ a.to < n.N ∧ 0 ≤ a.cap
  sum : capSum n.arcs ≤ 4611686018427387904
theorem getD_mem {α : Type} {l : List α} {i : Nat} (d : α) (h : i < l.length) : l.getD i d ∈ l := by
  rw [List.getD, List.getElem?_eq_getElem h]; exact List.getElem_mem h
theorem take_snoc {α : Type} {l : List α} {i : Nat} (d : α) (h : i < l.length) : l.take (i + 1) = l.take i ++ [l.getD i d] := by
  rw [List.take_succ_eq_append_getElem h, List.getD, List.getElem?_eq_getElem h]; rfl
theorem capSum_nonneg : ∀ {l : List Arc}, (∀ a ∈ l, 0 ≤ a.cap) → 0 ≤ capSum l
  | [], _ => by simp [capSum]
  | a :: l, h => by
    have h1 := h a (by simp)
    have h2 := capSum_nonneg (l := l) (fun b hb => h b (by simp [hb]))
    simp only [capSum, List.map_cons, List.sum_cons] at h2 ⊢
    omega
theorem capSum_append (l m : List Arc) : capSum (l ++ m) = capSum l + capSum m := by simp [capSum]
theorem NetOK.arc {n : Net} (h : NetOK n) {i : Nat} (hi : i < n.arcs.length) : 0 ≤ (n.arcs.getD i Arc.none).frm ∧ (n.arcs.getD i Arc.none).frm < n.N ∧ 0 ≤ (n.arcs.getD i Arc.none).to ∧ (n.arcs.getD i Arc.none).to < n.N ∧ 0 ≤ (n.arcs.getD i Arc.none).cap := h.ends _ (getD_mem _ hi)
theorem NetOK.part {n : Net} (h : NetOK n) (i : Nat) : 0 ≤ capSum (n.arcs.take i) ∧ capSum (n.arcs.take i) ≤ 4611686018427387904 := by
  have h1 : n.arcs = n.arcs.take i ++ n.arcs.drop i := (List.take_append_drop _ _).symm
  have h2 := capSum_append (n.arcs.take i) (n.arcs.drop i)
  rw [← h1] at h2
  have h3 : 0 ≤ capSum (n.arcs.drop i) := capSum_nonneg fun a ha => (h.ends a (List.mem_of_mem_drop ha)).2.2.2.2
  have h4 : 0 ≤ capSum (n.arcs.take i) := capSum_nonneg fun a ha => (h.ends a (List.mem_of_mem_take ha)).2.2.2.2
  have := h.sum
  omega
theorem capSum_next {n : Net} {i : Nat} (hi : i < n.arcs.length) : capSum (n.arcs.take (i + 1)) = capSum (n.arcs.take i) + (n.arcs.getD i Arc.none).cap := by
  rw [take_snoc Arc.none hi, capSum_append]; simp [capSum]
set_option maxHeartbeats 8000000 in
theorem t_vertex (n : Net) (v : Int) (h : 0 ≤ v ∧ v < n.N) : Tri Try.prog 71 [n.sv 0, .val (.int .i64 v)] [SO.arcs false n.arcs] (fun s H => s = .val (.bool true) ∧ H = [SO.arcs false n.arcs]) := by
  refine tri_of_w (fn := Try.f71) Try.func71 rfl (by simp [Try.f71]) ?_
  intro ρ w hρ
  refine w_seq ?_
  refine w_region ?_
  refine rw_t 2 rfl rfl rfl (n_box_agg (n := 1) rfl  rfl ?_)
  refine rw_t 4 rfl rfl rfl (do_assign rfl ?_)
  refine rw_nil ?_
  refine w_seq ?_
  refine w_region ?_
  refine rw_t 5 rfl rfl rfl (do_move rfl ?_)
  refine rw_t 6 rfl rfl rfl (do_bin rfl rfl rfl ?_)
  refine rw_t 7 rfl rfl rfl (do_move rfl ?_)
  refine rw_gt 8 2 7 true rfl rfl rfl rfl rfl rfl (by first | rfl | assumption | (simp only [bs]; omega) | (simp [*]; done)) (do_move rfl ?_)
  refine rw_gt 9 2 7 true rfl rfl rfl rfl rfl rfl (by first | rfl | assumption | (simp only [bs]; omega) | (simp [*]; done)) (do_fieldaddr rfl ?_)
  first
    | refine rw_gt 10 2 7 true rfl rfl rfl rfl rfl rfl (by first | rfl | assumption | (simp only [bs]; omega) | (simp [*]; done)) (do_load_box rfl rfl rfl ?_)
    | refine rw_gt 10 2 7 true rfl rfl rfl rfl rfl rfl (by first | rfl | assumption | (simp only [bs]; omega) | (simp [*]; done)) (do_load_arr rfl rfl (by omega) rfl ?_)
    | refine rw_gt 10 2 7 true rfl rfl rfl rfl rfl rfl (by first | rfl | assumption | (simp only [bs]; omega) | (simp [*]; done)) (n_load_boxagg [_] rfl rfl (Nat.le_of_ble_eq_true rfl) rfl ?_)
    | refine rw_gt 10 2 7 true rfl rfl rfl rfl rfl rfl (by first | rfl | assumption | (simp only [bs]; omega) | (simp [*]; done)) (n_load_arragg [_] rfl rfl rfl (by omega) rfl ?_)
  refine rw_gt 11 2 7 true rfl rfl rfl rfl rfl rfl (by first | rfl | assumption | (simp only [bs]; omega) | (simp [*]; done)) (do_bin rfl rfl rfl ?_)
  refine rw_t 12 rfl rfl rfl (do_pick_t rfl (by first | rfl | assumption | (simp only [bs]; omega) | (simp [*]; done)) rfl ?_)
  refine rw_t 4 rfl rfl rfl (do_assign rfl ?_)
  refine rw_nil ?_
  refine w_ret ?_
  exact ret_eq (.inl rfl) (.cons (res_tmp rfl) .nil) [0] (bool_congr (by simp; omega)) ⟨shR rfl, trivial⟩ rfl (pre_ok rfl)
set_option maxHeartbeats 8000000 in
theorem t_Sum (n : Net) (h : NetOK n) : Tri Try.prog 72 [n.sv 0] [SO.arcs false n.arcs] (fun s H => s = .tup [.val (.int .i64 (capSum n.arcs)), .val (.bool true)] ∧ H = [SO.arcs false n.arcs]) := by
  refine tri_of_w (fn := Try.f72) Try.func72 rfl (by simp [Try.f72]) ?_
  intro ρ w hρ
  refine w_seq ?_
  refine w_region ?_
  refine rw_t 1 rfl rfl rfl (n_box_agg (n := 1) rfl  rfl ?_)
  refine rw_t 2 rfl rfl rfl (do_assign rfl ?_)
  refine rw_t 3 rfl rfl rfl (do_assign rfl ?_)
  refine rw_nil ?_
  refine w_seq ?_
  refine w_region ?_
  refine rw_t 4 rfl rfl rfl (do_assign rfl ?_)
  refine rw_nil ?_
  refine w_seq ?_
  refine w_seq ?_
  refine w_region ?_
  refine rw_t 5 rfl rfl rfl (do_assign rfl ?_)
  refine rw_nil ?_
  refine w_block ?_ -- block 0
  have hmany := h.many
  refine w_loopS (ι := Nat) (fun i => [(4, .val (.int .i64 (capSum (n.arcs.take i)))), (5, .val (.int .i64 ((i : Nat)))), (1, .ptr 1 0 0)]) (fun i => [SO.arcs false n.arcs, .box [.val (.int .i64 n.N), .val (.int .i64 n.S), .val (.int .i64 n.T), .slc 0 0 n.arcs.length none]]) (fun i => n.arcs.length - i) (fun i => i ≤ n.arcs.length) (0) [0, 1] (by simp) ⟨shR rfl, shR rfl, trivial⟩ rfl (pre_ok rfl) hρ ⟨⟨_, rfl, rfl⟩, ⟨_, rfl, rfl⟩, ⟨_, rfl, rfl⟩, trivial⟩ ?_
  intro i hi
  refine w_seq ?_
  refine w_seq ?_
  refine w_region ?_
  refine rw_t 7 rfl rfl rfl (do_move rfl ?_)
  refine rw_t 8 rfl rfl rfl (do_fieldaddr rfl ?_)
  first
    | refine rw_t 9 rfl rfl rfl (do_load_box rfl rfl rfl ?_)
    | refine rw_t 9 rfl rfl rfl (do_load_arr rfl rfl (by omega) rfl ?_)
    | refine rw_t 9 rfl rfl rfl (n_load_boxagg [_] rfl rfl (Nat.le_of_ble_eq_true rfl) rfl ?_)
    | refine rw_t 9 rfl rfl rfl (n_load_arragg [_] rfl rfl rfl (by omega) rfl ?_)
  refine rw_t 10 rfl rfl rfl (do_len rfl ?_)
  refine rw_t 11 rfl rfl rfl (do_bin rfl rfl rfl ?_)
  refine rw_nil ?_
  refine w_cond rfl (fun hc1 => ?_) (fun hc1 => ?_)
  all_goals simp only [bs] at hc1
  rotate_left
  · refine w_exit ?_
    refine w_seq ?_
    refine w_region ?_
    refine rw_t 31 rfl rfl rfl (do_move rfl ?_)
    refine rw_t 2 rfl rfl rfl (do_assign rfl ?_)
    refine rw_t 3 rfl rfl rfl (do_assign rfl ?_)
    refine rw_nil ?_
    refine w_ret ?_
    exact ret_eq (.inl rfl) (.cons (res_tmp rfl) (.cons (res_tmp rfl) .nil)) [0] (by rw [List.take_of_length_le (by omega)]; rfl) ⟨shR rfl, trivial⟩ rfl (pre_ok rfl)
  refine w_skip ?_
  refine w_seq ?_
  refine w_block ?_ -- block 1
  refine w_seq ?_
  refine w_region ?_
  refine rw_t 14 rfl rfl rfl (do_fieldaddr rfl ?_)
  first
    | refine rw_t 15 rfl rfl rfl (do_load_box rfl rfl rfl ?_)
    | refine rw_t 15 rfl rfl rfl (do_load_arr rfl rfl (by omega) rfl ?_)
    | refine rw_t 15 rfl rfl rfl (n_load_boxagg [_] rfl rfl (Nat.le_of_ble_eq_true rfl) rfl ?_)
    | refine rw_t 15 rfl rfl rfl (n_load_arragg [_] rfl rfl rfl (by omega) rfl ?_)
  refine rw_t 16 rfl rfl rfl (do_move rfl ?_)
  first
    | refine rw_t 17 rfl rfl rfl (do_ixn rfl rfl rfl (by omega) ?_)
    | refine rw_t 17 rfl rfl rfl (do_ix0 rfl rfl rfl (by omega) ?_)
    | refine rw_t 17 rfl rfl rfl (do_ix rfl rfl rfl (by omega) ?_)
  refine rw_t 18 rfl rfl rfl (do_fieldaddr rfl ?_)
  first
    | refine rw_t 19 rfl rfl rfl (do_load_box rfl rfl rfl ?_)
    | refine rw_t 19 rfl rfl rfl (do_load_arr rfl rfl (by omega) rfl ?_)
    | refine rw_t 19 rfl rfl rfl (n_load_boxagg [_] rfl rfl (Nat.le_of_ble_eq_true rfl) rfl ?_)
    | refine rw_t 19 rfl rfl rfl (n_load_arragg [_] rfl rfl rfl (by omega) rfl ?_)
  refine rw_t 6 rfl rfl rfl (do_assign rfl ?_)
  refine rw_nil ?_
  refine w_seq ?_
  refine w_seq ?_
  have hc := h.arc (i := i) (by omega)
  have hs := h.part i
  have hs' := h.part (i + 1)
  rw [capSum_next (by omega)] at hs'
  refine w_region ?_
  refine rw_t 20 rfl rfl rfl (do_move rfl ?_)
  refine rw_t 21 rfl rfl rfl (do_bin rfl rfl rfl ?_)
  refine rw_t 22 rfl rfl rfl (do_move rfl ?_)
  refine rw_gt 23 2 22 false rfl rfl rfl rfl rfl rfl (by first | rfl | assumption | (simp only [bs]; omega) | (simp [*]; done)) (do_move rfl ?_)
  refine rw_gt 24 2 22 false rfl rfl rfl rfl rfl rfl (by first | rfl | assumption | (simp only [bs]; omega) | (simp [*]; done)) (do_move rfl ?_)
  refine rw_gt 25 2 22 false rfl rfl rfl rfl rfl rfl (by first | rfl | assumption | (simp only [bs]; omega) | (simp [*]; done)) (do_sub rfl rfl (by omega) ?_)
  refine rw_gt 26 2 22 false rfl rfl rfl rfl rfl rfl (by first | rfl | assumption | (simp only [bs]; omega) | (simp [*]; done)) (do_bin rfl rfl rfl ?_)
  refine rw_t 27 rfl rfl rfl (do_pick_f rfl (by first | rfl | assumption | (simp only [bs]; omega) | (simp [*]; done)) rfl ?_)
  refine rw_nil ?_
  refine w_cond rfl (fun hc2 => ?_) (fun hc2 => ?_)
  · exfalso; first | (cases hc2; done) | (simp only [bs] at hc2; omega)
  refine w_skip ?_
  refine w_region ?_
  refine rw_t 28 rfl rfl rfl (do_move rfl ?_)
  refine rw_t 29 rfl rfl rfl (do_move rfl ?_)
  refine rw_t 30 rfl rfl rfl (do_add rfl rfl (by omega) ?_)
  refine rw_t 4 rfl rfl rfl (do_assign rfl ?_)
  refine rw_nil ?_
  refine w_region ?_
  refine rw_t 12 rfl rfl rfl (do_move rfl ?_)
  refine rw_t 13 rfl rfl rfl (do_add rfl rfl (by omega) ?_)
  refine rw_t 5 rfl rfl rfl (do_assign rfl ?_)
  refine rw_nil ?_
  refine ⟨i + 1, [0, 1], by dsimp only; omega, by omega, ⟨shR rfl, shR rfl, trivial⟩, rfl, pre_ok rfl, ⟨⟨_, rfl, val_congr (capSum_next (by omega)).symm⟩, ⟨_, rfl, rfl⟩, ⟨_, rfl, rfl⟩, trivial⟩⟩
set_option maxHeartbeats 8000000 in
theorem t_Check (n : Net) (h : NetOK n) : Tri Try.prog 59 [n.sv 0] [SO.arcs false n.arcs] (fun s H => s = .val (.int .i64 0) ∧ H = [SO.arcs false n.arcs]) := by
  refine tri_of_w (fn := Try.f59) Try.func59 rfl (by simp [Try.f59]) ?_
  intro ρ w hρ
  refine w_seq ?_
  have h1 := h.lo
  have h2 := h.hi
  have h3 := h.many
  have h4 := h.s
  have h5 := h.t
  have h6 := h.st
  refine w_region ?_
  refine rw_t 1 rfl rfl rfl (n_box_agg (n := 1) rfl  rfl ?_)
  refine rw_t 2 rfl rfl rfl (do_assign rfl ?_)
  refine rw_nil ?_
  refine w_seq ?_
  refine w_seqB 15 (False) ?_ ?_
  · -- region 1
    refine w_region ?_
    refine rw_t 8 rfl rfl rfl (do_fieldaddr rfl ?_)
    first
      | refine rw_t 9 rfl rfl rfl (do_load_box rfl rfl rfl ?_)
      | refine rw_t 9 rfl rfl rfl (do_load_arr rfl rfl (by omega) rfl ?_)
      | refine rw_t 9 rfl rfl rfl (n_load_boxagg [_] rfl rfl (Nat.le_of_ble_eq_true rfl) rfl ?_)
      | refine rw_t 9 rfl rfl rfl (n_load_arragg [_] rfl rfl rfl (by omega) rfl ?_)
    refine rw_t 10 rfl rfl rfl (do_bin rfl rfl rfl ?_)
    refine rw_t 11 rfl rfl rfl (do_move rfl ?_)
    refine rw_gt 12 3 11 false rfl rfl rfl rfl rfl rfl (by first | rfl | assumption | (simp only [bs]; omega) | (simp [*]; done)) (do_fieldaddr rfl ?_)
    first
      | refine rw_gt 13 3 11 false rfl rfl rfl rfl rfl rfl (by first | rfl | assumption | (simp only [bs]; omega) | (simp [*]; done)) (do_load_box rfl rfl rfl ?_)
      | refine rw_gt 13 3 11 false rfl rfl rfl rfl rfl rfl (by first | rfl | assumption | (simp only [bs]; omega) | (simp [*]; done)) (do_load_arr rfl rfl (by omega) rfl ?_)
      | refine rw_gt 13 3 11 false rfl rfl rfl rfl rfl rfl (by first | rfl | assumption | (simp only [bs]; omega) | (simp [*]; done)) (n_load_boxagg [_] rfl rfl (Nat.le_of_ble_eq_true rfl) rfl ?_)
      | refine rw_gt 13 3 11 false rfl rfl rfl rfl rfl rfl (by first | rfl | assumption | (simp only [bs]; omega) | (simp [*]; done)) (n_load_arragg [_] rfl rfl rfl (by omega) rfl ?_)
    refine rw_gt 14 3 11 false rfl rfl rfl rfl rfl rfl (by first | rfl | assumption | (simp only [bs]; omega) | (simp [*]; done)) (do_bin rfl rfl rfl ?_)
    refine rw_t 15 rfl rfl rfl (do_pick_f rfl (by first | rfl | assumption | (simp only [bs]; omega) | (simp [*]; done)) rfl ?_)
    refine rw_nil ?_
    refine ⟨rfl, ⟨_, rfl, by first | (simp only [bs]; omega) | (simp; done) | (simp; omega) | (constructor <;> intro h <;> simp_all <;> omega)⟩, ?_⟩
    repeat (refine ⟨⟨_, rfl, rfl⟩, ?_⟩)
    exact trivial
  intro b1 hb1
  refine w_condP hb1 rfl (fun hc1 => ?_) (fun hc1 => ?_)
  · exact (hc1).elim
  refine w_skip ?_
  refine w_seq ?_
  refine w_seq ?_
  refine w_region ?_
  refine rw_t 16 rfl rfl rfl (do_fieldaddr rfl ?_)
  first
    | refine rw_t 17 rfl rfl rfl (do_load_box rfl rfl rfl ?_)
    | refine rw_t 17 rfl rfl rfl (do_load_arr rfl rfl (by omega) rfl ?_)
    | refine rw_t 17 rfl rfl rfl (n_load_boxagg [_] rfl rfl (Nat.le_of_ble_eq_true rfl) rfl ?_)
    | refine rw_t 17 rfl rfl rfl (n_load_arragg [_] rfl rfl rfl (by omega) rfl ?_)
  refine rw_t 18 rfl rfl rfl (do_len rfl ?_)
  refine rw_t 19 rfl rfl rfl (do_bin rfl rfl rfl ?_)
  refine rw_nil ?_
  refine w_cond rfl (fun hc2 => ?_) (fun hc2 => ?_)
  · exfalso; first | (cases hc2; done) | (simp only [bs] at hc2; omega)
  refine w_skip ?_
  refine w_seq ?_
  refine w_seqB 38 (False) ?_ ?_
  · -- region 5
    refine w_region ?_
    first
      | refine rw_t 20 rfl rfl rfl (do_load_box rfl rfl rfl ?_)
      | refine rw_t 20 rfl rfl rfl (do_load_arr rfl rfl (by omega) rfl ?_)
      | refine rw_t 20 rfl rfl rfl (n_load_boxagg [_, _, _, _] rfl rfl (Nat.le_of_ble_eq_true rfl) rfl ?_)
      | refine rw_t 20 rfl rfl rfl (n_load_arragg [_, _, _, _] rfl rfl rfl (by omega) rfl ?_)
    refine rw_t 21 rfl rfl rfl (do_fieldaddr rfl ?_)
    first
      | refine rw_t 22 rfl rfl rfl (do_load_box rfl rfl rfl ?_)
      | refine rw_t 22 rfl rfl rfl (do_load_arr rfl rfl (by omega) rfl ?_)
      | refine rw_t 22 rfl rfl rfl (n_load_boxagg [_] rfl rfl (Nat.le_of_ble_eq_true rfl) rfl ?_)
      | refine rw_t 22 rfl rfl rfl (n_load_arragg [_] rfl rfl rfl (by omega) rfl ?_)
    refine rw_t 23 rfl rfl rfl (do_callR rfl rfl (t_vertex n _ h.s) [0] ⟨.inr ⟨_, rfl, srv⟩, trivial⟩ rfl rfl rfl ?_)
    refine rw_t 24 rfl rfl rfl (do_not rfl ?_)
    refine rw_t 25 rfl rfl rfl (do_move rfl ?_)
    first
      | refine rw_gt 26 5 25 false rfl rfl rfl rfl rfl rfl (by first | rfl | assumption | (simp only [bs]; omega) | (simp [*]; done)) (do_load_box rfl rfl rfl ?_)
      | refine rw_gt 26 5 25 false rfl rfl rfl rfl rfl rfl (by first | rfl | assumption | (simp only [bs]; omega) | (simp [*]; done)) (do_load_arr rfl rfl (by omega) rfl ?_)
      | refine rw_gt 26 5 25 false rfl rfl rfl rfl rfl rfl (by first | rfl | assumption | (simp only [bs]; omega) | (simp [*]; done)) (n_load_boxagg [_, _, _, _] rfl rfl (Nat.le_of_ble_eq_true rfl) rfl ?_)
      | refine rw_gt 26 5 25 false rfl rfl rfl rfl rfl rfl (by first | rfl | assumption | (simp only [bs]; omega) | (simp [*]; done)) (n_load_arragg [_, _, _, _] rfl rfl rfl (by omega) rfl ?_)
    refine rw_gt 27 5 25 false rfl rfl rfl rfl rfl rfl (by first | rfl | assumption | (simp only [bs]; omega) | (simp [*]; done)) (do_fieldaddr rfl ?_)
    first
      | refine rw_gt 28 5 25 false rfl rfl rfl rfl rfl rfl (by first | rfl | assumption | (simp only [bs]; omega) | (simp [*]; done)) (do_load_box rfl rfl rfl ?_)
      | refine rw_gt 28 5 25 false rfl rfl rfl rfl rfl rfl (by first | rfl | assumption | (simp only [bs]; omega) | (simp [*]; done)) (do_load_arr rfl rfl (by omega) rfl ?_)
      | refine rw_gt 28 5 25 false rfl rfl rfl rfl rfl rfl (by first | rfl | assumption | (simp only [bs]; omega) | (simp [*]; done)) (n_load_boxagg [_] rfl rfl (Nat.le_of_ble_eq_true rfl) rfl ?_)
      | refine rw_gt 28 5 25 false rfl rfl rfl rfl rfl rfl (by first | rfl | assumption | (simp only [bs]; omega) | (simp [*]; done)) (n_load_arragg [_] rfl rfl rfl (by omega) rfl ?_)
    refine rw_gt 29 5 25 false rfl rfl rfl rfl rfl rfl (by first | rfl | assumption | (simp only [bs]; omega) | (simp [*]; done)) (do_callR rfl rfl (t_vertex n _ h.t) [0] ⟨.inr ⟨_, rfl, srv⟩, trivial⟩ rfl rfl rfl ?_)
    refine rw_gt 30 5 25 false rfl rfl rfl rfl rfl rfl (by first | rfl | assumption | (simp only [bs]; omega) | (simp [*]; done)) (do_not rfl ?_)
    refine rw_t 31 rfl rfl rfl (do_pick_f rfl (by first | rfl | assumption | (simp only [bs]; omega) | (simp [*]; done)) rfl ?_)
    refine rw_t 32 rfl rfl rfl (do_move rfl ?_)
    refine rw_gt 33 12 32 false rfl rfl rfl rfl rfl rfl (by first | rfl | assumption | (simp only [bs]; omega) | (simp [*]; done)) (do_fieldaddr rfl ?_)
    first
      | refine rw_gt 34 12 32 false rfl rfl rfl rfl rfl rfl (by first | rfl | assumption | (simp only [bs]; omega) | (simp [*]; done)) (do_load_box rfl rfl rfl ?_)
      | refine rw_gt 34 12 32 false rfl rfl rfl rfl rfl rfl (by first | rfl | assumption | (simp only [bs]; omega) | (simp [*]; done)) (do_load_arr rfl rfl (by omega) rfl ?_)
      | refine rw_gt 34 12 32 false rfl rfl rfl rfl rfl rfl (by first | rfl | assumption | (simp only [bs]; omega) | (simp [*]; done)) (n_load_boxagg [_] rfl rfl (Nat.le_of_ble_eq_true rfl) rfl ?_)
      | refine rw_gt 34 12 32 false rfl rfl rfl rfl rfl rfl (by first | rfl | assumption | (simp only [bs]; omega) | (simp [*]; done)) (n_load_arragg [_] rfl rfl rfl (by omega) rfl ?_)
    refine rw_gt 35 12 32 false rfl rfl rfl rfl rfl rfl (by first | rfl | assumption | (simp only [bs]; omega) | (simp [*]; done)) (do_fieldaddr rfl ?_)
    first
      | refine rw_gt 36 12 32 false rfl rfl rfl rfl rfl rfl (by first | rfl | assumption | (simp only [bs]; omega) | (simp [*]; done)) (do_load_box rfl rfl rfl ?_)
      | refine rw_gt 36 12 32 false rfl rfl rfl rfl rfl rfl (by first | rfl | assumption | (simp only [bs]; omega) | (simp [*]; done)) (do_load_arr rfl rfl (by omega) rfl ?_)
      | refine rw_gt 36 12 32 false rfl rfl rfl rfl rfl rfl (by first | rfl | assumption | (simp only [bs]; omega) | (simp [*]; done)) (n_load_boxagg [_] rfl rfl (Nat.le_of_ble_eq_true rfl) rfl ?_)
      | refine rw_gt 36 12 32 false rfl rfl rfl rfl rfl rfl (by first | rfl | assumption | (simp only [bs]; omega) | (simp [*]; done)) (n_load_arragg [_] rfl rfl rfl (by omega) rfl ?_)
    refine rw_gt 37 12 32 false rfl rfl rfl rfl rfl rfl (by first | rfl | assumption | (simp only [bs]; omega) | (simp [*]; done)) (do_bin rfl rfl rfl ?_)
    refine rw_t 38 rfl rfl rfl (do_pick_f rfl (by first | rfl | assumption | (simp only [bs]; omega) | (simp [*]; done)) rfl ?_)
    refine rw_nil ?_
    refine ⟨rfl, ⟨_, rfl, by first | (simp only [bs]; omega) | (simp; done) | (simp; omega) | (constructor <;> intro h <;> simp_all <;> omega)⟩, ?_⟩
    repeat (refine ⟨⟨_, rfl, rfl⟩, ?_⟩)
    exact trivial
  intro b2 hb2
  refine w_condP hb2 rfl (fun hc3 => ?_) (fun hc3 => ?_)
  · exact (hc3).elim
  refine w_skip ?_
  refine w_seq ?_
  refine w_region ?_
  refine rw_t 3 rfl rfl rfl (do_assign rfl ?_)
  refine rw_nil ?_
  refine w_seq ?_
  refine w_seq ?_
  refine w_region ?_
  refine rw_t 4 rfl rfl rfl (do_assign rfl ?_)
  refine rw_nil ?_
  refine w_block ?_ -- block 0
  refine w_loopS (ι := Nat) (fun i => [(3, .val (.bool false)), (4, .val (.int .i64 ((i : Nat)))), (1, .ptr 1 0 0)]) (fun i => [SO.arcs false n.arcs, .box [.val (.int .i64 n.N), .val (.int .i64 n.S), .val (.int .i64 n.T), .slc 0 0 n.arcs.length none]]) (fun i => n.arcs.length - i) (fun i => i ≤ n.arcs.length) (0) [0, 1] (by simp) ⟨shR rfl, shR rfl, trivial⟩ rfl (pre_ok rfl) hρ ⟨⟨_, rfl, rfl⟩, ⟨_, rfl, rfl⟩, ⟨_, rfl, rfl⟩, trivial⟩ ?_
  intro i hi
  refine w_seq ?_
  refine w_seq ?_
  refine w_region ?_
  refine rw_t 39 rfl rfl rfl (do_move rfl ?_)
  refine rw_t 40 rfl rfl rfl (do_fieldaddr rfl ?_)
  first
    | refine rw_t 41 rfl rfl rfl (do_load_box rfl rfl rfl ?_)
    | refine rw_t 41 rfl rfl rfl (do_load_arr rfl rfl (by omega) rfl ?_)
    | refine rw_t 41 rfl rfl rfl (n_load_boxagg [_] rfl rfl (Nat.le_of_ble_eq_true rfl) rfl ?_)
    | refine rw_t 41 rfl rfl rfl (n_load_arragg [_] rfl rfl rfl (by omega) rfl ?_)
  refine rw_t 42 rfl rfl rfl (do_len rfl ?_)
  refine rw_t 43 rfl rfl rfl (do_bin rfl rfl rfl ?_)
  refine rw_nil ?_
  refine w_cond rfl (fun hc4 => ?_) (fun hc4 => ?_)
  all_goals simp only [bs] at hc4
  rotate_left
  · refine w_exit ?_
    refine w_seq ?_
    refine w_seq ?_
    refine w_region ?_
    refine rw_t 69 rfl rfl rfl (do_move rfl ?_)
    refine rw_nil ?_
    refine w_cond rfl (fun hc5 => ?_) (fun hc5 => ?_)
    · exfalso; first | (cases hc5; done) | (simp only [bs] at hc5; omega)
    refine w_skip ?_
    refine w_seq ?_
    refine w_region ?_
    first
      | refine rw_t 71 rfl rfl rfl (do_load_box rfl rfl rfl ?_)
      | refine rw_t 71 rfl rfl rfl (do_load_arr rfl rfl (by omega) rfl ?_)
      | refine rw_t 71 rfl rfl rfl (n_load_boxagg [_, _, _, _] rfl rfl (Nat.le_of_ble_eq_true rfl) rfl ?_)
      | refine rw_t 71 rfl rfl rfl (n_load_arragg [_, _, _, _] rfl rfl rfl (by omega) rfl ?_)
    refine rw_t 72 rfl rfl rfl (do_callR rfl rfl (t_Sum n h) [0] ⟨.inr ⟨_, rfl, srv⟩, trivial⟩ rfl rfl rfl ?_)
    refine rw_t 70 rfl rfl rfl (do_move rfl ?_)
    refine rw_t 73 rfl rfl rfl (do_extract rfl rfl ?_)
    refine rw_t 74 rfl rfl rfl (do_extract rfl rfl ?_)
    refine rw_t 6 rfl rfl rfl (do_assign rfl ?_)
    refine rw_t 7 rfl rfl rfl (do_assign rfl ?_)
    refine rw_nil ?_
    refine w_seq ?_
    refine w_seq ?_
    refine w_region ?_
    refine rw_t 75 rfl rfl rfl (do_move rfl ?_)
    refine rw_t 76 rfl rfl rfl (do_not rfl ?_)
    refine rw_nil ?_
    refine w_cond rfl (fun hc6 => ?_) (fun hc6 => ?_)
    · exfalso; first | (cases hc6; done) | (simp only [bs] at hc6; omega)
    refine w_skip ?_
    refine w_seq ?_
    refine w_region ?_
    refine rw_t 2 rfl rfl rfl (do_assign rfl ?_)
    refine rw_nil ?_
    refine w_ret ?_
    exact ret_eq (.inl rfl) (.cons (res_tmp rfl) .nil) [0] (rfl) ⟨shR rfl, trivial⟩ rfl (pre_ok rfl)
  refine w_skip ?_
  refine w_seq ?_
  refine w_block ?_ -- block 1
  refine w_seq ?_
  have hc := h.arc (i := i) (by omega)
  refine w_region ?_
  refine rw_t 46 rfl rfl rfl (do_fieldaddr rfl ?_)
  first
    | refine rw_t 47 rfl rfl rfl (do_load_box rfl rfl rfl ?_)
    | refine rw_t 47 rfl rfl rfl (do_load_arr rfl rfl (by omega) rfl ?_)
    | refine rw_t 47 rfl rfl rfl (n_load_boxagg [_] rfl rfl (Nat.le_of_ble_eq_true rfl) rfl ?_)
    | refine rw_t 47 rfl rfl rfl (n_load_arragg [_] rfl rfl rfl (by omega) rfl ?_)
  refine rw_t 48 rfl rfl rfl (do_move rfl ?_)
  first
    | refine rw_t 49 rfl rfl rfl (do_ixn rfl rfl rfl (by omega) ?_)
    | refine rw_t 49 rfl rfl rfl (do_ix0 rfl rfl rfl (by omega) ?_)
    | refine rw_t 49 rfl rfl rfl (do_ix rfl rfl rfl (by omega) ?_)
  first
    | refine rw_t 50 rfl rfl rfl (do_load_box rfl rfl rfl ?_)
    | refine rw_t 50 rfl rfl rfl (do_load_arr rfl rfl (by omega) rfl ?_)
    | refine rw_t 50 rfl rfl rfl (n_load_boxagg [_, _, _] rfl rfl (Nat.le_of_ble_eq_true rfl) rfl ?_)
    | refine rw_t 50 rfl rfl rfl (n_load_arragg [_, _, _] rfl rfl rfl (by omega) rfl ?_)
  refine rw_t 5 rfl rfl rfl (n_alloc (n := 2) rfl ?_)
  first
    | refine rw_u rfl rfl (n_store_box rfl rfl rfl (Nat.le_of_ble_eq_true rfl) rfl ?_)
    | refine rw_u rfl rfl (n_store_arr rfl rfl rfl (by omega) rfl (by decide) rfl ?_)
    | refine rw_u rfl rfl (n_store_whole rfl rfl rfl rfl rfl rfl ?_)
  refine rw_nil ?_
  refine w_seq ?_
  refine w_seqB 62 (False) ?_ ?_
  · -- region 12
    refine w_region ?_
    first
      | refine rw_t 51 rfl rfl rfl (do_load_box rfl rfl rfl ?_)
      | refine rw_t 51 rfl rfl rfl (do_load_arr rfl rfl (by omega) rfl ?_)
      | refine rw_t 51 rfl rfl rfl (n_load_boxagg [_, _, _, _] rfl rfl (Nat.le_of_ble_eq_true rfl) rfl ?_)
      | refine rw_t 51 rfl rfl rfl (n_load_arragg [_, _, _, _] rfl rfl rfl (by omega) rfl ?_)
    refine rw_t 52 rfl rfl rfl (do_fieldaddr rfl ?_)
    first
      | refine rw_t 53 rfl rfl rfl (do_load_box rfl rfl rfl ?_)
      | refine rw_t 53 rfl rfl rfl (do_load_arr rfl rfl (by omega) rfl ?_)
      | refine rw_t 53 rfl rfl rfl (n_load_boxagg [_] rfl rfl (Nat.le_of_ble_eq_true rfl) rfl ?_)
      | refine rw_t 53 rfl rfl rfl (n_load_arragg [_] rfl rfl rfl (by omega) rfl ?_)
    refine rw_t 54 rfl rfl rfl (do_callR rfl rfl (t_vertex n _ ⟨hc.1, hc.2.1⟩) [0] ⟨.inr ⟨_, rfl, srv⟩, trivial⟩ rfl rfl rfl ?_)
    refine rw_t 55 rfl rfl rfl (do_not rfl ?_)
    refine rw_t 56 rfl rfl rfl (do_move rfl ?_)
    first
      | refine rw_gt 57 5 56 false rfl rfl rfl rfl rfl rfl (by first | rfl | assumption | (simp only [bs]; omega) | (simp [*]; done)) (do_load_box rfl rfl rfl ?_)
      | refine rw_gt 57 5 56 false rfl rfl rfl rfl rfl rfl (by first | rfl | assumption | (simp only [bs]; omega) | (simp [*]; done)) (do_load_arr rfl rfl (by omega) rfl ?_)
      | refine rw_gt 57 5 56 false rfl rfl rfl rfl rfl rfl (by first | rfl | assumption | (simp only [bs]; omega) | (simp [*]; done)) (n_load_boxagg [_, _, _, _] rfl rfl (Nat.le_of_ble_eq_true rfl) rfl ?_)
      | refine rw_gt 57 5 56 false rfl rfl rfl rfl rfl rfl (by first | rfl | assumption | (simp only [bs]; omega) | (simp [*]; done)) (n_load_arragg [_, _, _, _] rfl rfl rfl (by omega) rfl ?_)
    refine rw_gt 58 5 56 false rfl rfl rfl rfl rfl rfl (by first | rfl | assumption | (simp only [bs]; omega) | (simp [*]; done)) (do_fieldaddr rfl ?_)
    first
      | refine rw_gt 59 5 56 false rfl rfl rfl rfl rfl rfl (by first | rfl | assumption | (simp only [bs]; omega) | (simp [*]; done)) (do_load_box rfl rfl rfl ?_)
      | refine rw_gt 59 5 56 false rfl rfl rfl rfl rfl rfl (by first | rfl | assumption | (simp only [bs]; omega) | (simp [*]; done)) (do_load_arr rfl rfl (by omega) rfl ?_)
      | refine rw_gt 59 5 56 false rfl rfl rfl rfl rfl rfl (by first | rfl | assumption | (simp only [bs]; omega) | (simp [*]; done)) (n_load_boxagg [_] rfl rfl (Nat.le_of_ble_eq_true rfl) rfl ?_)
      | refine rw_gt 59 5 56 false rfl rfl rfl rfl rfl rfl (by first | rfl | assumption | (simp only [bs]; omega) | (simp [*]; done)) (n_load_arragg [_] rfl rfl rfl (by omega) rfl ?_)
    refine rw_gt 60 5 56 false rfl rfl rfl rfl rfl rfl (by first | rfl | assumption | (simp only [bs]; omega) | (simp [*]; done)) (do_callR rfl rfl (t_vertex n _ ⟨hc.2.2.1, hc.2.2.2.1⟩) [0] ⟨.inr ⟨_, rfl, srv⟩, trivial⟩ rfl rfl rfl ?_)
    refine rw_gt 61 5 56 false rfl rfl rfl rfl rfl rfl (by first | rfl | assumption | (simp only [bs]; omega) | (simp [*]; done)) (do_not rfl ?_)
    refine rw_t 62 rfl rfl rfl (do_pick_f rfl (by first | rfl | assumption | (simp only [bs]; omega) | (simp [*]; done)) rfl ?_)
    refine rw_nil ?_
    refine ⟨rfl, ⟨_, rfl, by first | (simp only [bs]; omega) | (simp; done) | (simp; omega) | (constructor <;> intro h <;> simp_all <;> omega)⟩, ?_⟩
    repeat (refine ⟨⟨_, rfl, rfl⟩, ?_⟩)
    exact trivial
  intro b3 hb3
  refine w_condP hb3 rfl (fun hc7 => ?_) (fun hc7 => ?_)
  · exact (hc7).elim
  refine w_skip ?_
  refine w_region ?_
  refine rw_t 63 rfl rfl rfl (do_move rfl ?_)
  refine rw_t 64 rfl rfl rfl (do_move rfl ?_)
  refine rw_gt 65 1 64 false rfl rfl rfl rfl rfl rfl (by first | rfl | assumption | (simp only [bs]; omega) | (simp [*]; done)) (do_fieldaddr rfl ?_)
  first
    | refine rw_gt 66 1 64 false rfl rfl rfl rfl rfl rfl (by first | rfl | assumption | (simp only [bs]; omega) | (simp [*]; done)) (do_load_box rfl rfl rfl ?_)
    | refine rw_gt 66 1 64 false rfl rfl rfl rfl rfl rfl (by first | rfl | assumption | (simp only [bs]; omega) | (simp [*]; done)) (do_load_arr rfl rfl (by omega) rfl ?_)
    | refine rw_gt 66 1 64 false rfl rfl rfl rfl rfl rfl (by first | rfl | assumption | (simp only [bs]; omega) | (simp [*]; done)) (n_load_boxagg [_] rfl rfl (Nat.le_of_ble_eq_true rfl) rfl ?_)
    | refine rw_gt 66 1 64 false rfl rfl rfl rfl rfl rfl (by first | rfl | assumption | (simp only [bs]; omega) | (simp [*]; done)) (n_load_arragg [_] rfl rfl rfl (by omega) rfl ?_)
  refine rw_gt 67 1 64 false rfl rfl rfl rfl rfl rfl (by first | rfl | assumption | (simp only [bs]; omega) | (simp [*]; done)) (do_bin rfl rfl rfl ?_)
  refine rw_t 68 rfl rfl rfl (do_pick_f rfl (by first | rfl | assumption | (simp only [bs]; omega) | (simp [*]; done)) rfl ?_)
  refine rw_t 3 rfl rfl rfl (do_assign rfl ?_)
  refine rw_nil ?_
  refine w_region ?_
  refine rw_t 44 rfl rfl rfl (do_move rfl ?_)
  refine rw_t 45 rfl rfl rfl (do_add rfl rfl (by omega) ?_)
  refine rw_t 4 rfl rfl rfl (do_assign rfl ?_)
  refine rw_nil ?_
  refine ⟨i + 1, [0, 1], by dsimp only; omega, by omega, ⟨shR rfl, shR rfl, trivial⟩, rfl, pre_ok rfl, ⟨⟨_, rfl, bool_congr (by simp only [decide_eq_false_iff_not]; omega)⟩, ⟨_, rfl, rfl⟩, ⟨_, rfl, rfl⟩, trivial⟩⟩
end Go.Proofs

set_option linter.unusedVariables false
namespace Go.Proofs
open Go Go.Sx Go.RowKit
theorem among_lo (x n : Int) : 0 ≤ Among x n := by
  unfold Among; split
  · omega
  · exact Int.emod_nonneg _ (by omega)
theorem among_hi (x : Int) {n : Int} (h : 1 ≤ n) : Among x n < n := by
  unfold Among; rw [if_neg (by omega)]; exact Int.emod_lt_of_pos _ (by omega)
def capOf (c : Int) : Int := (if c < 0 then -(c + 1) else c).tmod 1125899906842624
def fitArc (N : Int) (a : Arc) : Arc := ⟨Among a.frm N, Among a.to N, capOf a.cap⟩
def someN (n : Net) (va : Int) : Int := 2 + Among n.N (va - 1)
def someS (n : Net) (va : Int) : Int := Among n.S (someN n va)
def someT (n : Net) (va : Int) : Int := if someS n va = Among n.T (someN n va) then (someS n va + 1).tmod (someN n va) else Among n.T (someN n va)
def someNet (n : Net) (va ar : Int) : Net := ⟨someN n va, someS n va, someT n va, (n.arcs.take (min n.arcs.length ar.toNat)).map (fitArc (someN n va))⟩
/-- Numbers of int64. -/
def In64 (x : Int) : Prop := -9223372036854775808 ≤ x ∧ x < 9223372036854775808
theorem cut_all {α : Type} (l : List α) {n : Nat} (h : l.length = n) : cut l 0 n = l := by simp [cut, ← h]
theorem map_cut {α β : Type} (f : α → β) {l : List α} {i : Nat} (d : α) (h : i < l.length) : (l.take (i + 1)).map f = cut ((l.take i).map f) 0 i ++ cut [f (l.getD i d)] 0 1 := by
  rw [take_snoc d h, cut_all ((l.take i).map f) (by simp; omega), cut_all (n := 1) [f (l.getD i d)] rfl]; simp
set_option maxHeartbeats 8000000 in
theorem t_Some (n : Net) (va ar : Int) (hva : 2 ≤ va ∧ va ≤ 4096) (har : 0 ≤ ar ∧ ar ≤ 16384) (hcap : ∀ a ∈ n.arcs, In64 a.cap) (hlen : n.arcs.length ≤ 9223372036854775807) : Tri Try.prog 9 [n.sv 0, .val (.int .i64 va), .val (.int .i64 ar)] [SO.arcs false n.arcs] (fun s H => s = (someNet n va ar).sv 1 ∧ H = [SO.arcs false n.arcs, SO.arcs true (someNet n va ar).arcs]) := by
  refine tri_of_w (fn := Try.f9) Try.func9 rfl (by simp [Try.f9]) ?_
  intro ρ w hρ
  refine w_seq ?_
  have hN0 : 0 ≤ someN n va := by have := among_lo n.N (va - 1); unfold someN; omega
  have hN1 : 2 ≤ someN n va := by have := among_lo n.N (va - 1); unfold someN; omega
  have hN2 : someN n va ≤ 4096 := by have := among_hi n.N (n := va - 1) (by omega); unfold someN; omega
  have hS0 : 0 ≤ someS n va := among_lo _ _
  have hS1 : someS n va < someN n va := among_hi _ (by omega)
  refine w_region ?_
  refine rw_t 3 rfl rfl rfl (n_box_agg (n := 1) rfl  rfl ?_)
  refine rw_t 6 rfl rfl rfl (n_alloc (n := 2) rfl ?_)
  refine rw_nil ?_
  refine w_seq ?_
  refine w_region ?_
  refine rw_t 11 rfl rfl rfl (do_fieldaddr rfl ?_)
  first
    | refine rw_t 12 rfl rfl rfl (do_load_box rfl rfl rfl ?_)
    | refine rw_t 12 rfl rfl rfl (do_load_arr rfl rfl (by omega) rfl ?_)
    | refine rw_t 12 rfl rfl rfl (n_load_boxagg [_] rfl rfl (Nat.le_of_ble_eq_true rfl) rfl ?_)
    | refine rw_t 12 rfl rfl rfl (n_load_arragg [_] rfl rfl rfl (by omega) rfl ?_)
  refine rw_t 13 rfl rfl rfl (do_move rfl ?_)
  refine rw_t 14 rfl rfl rfl (do_sub rfl rfl (by omega) ?_)
  refine rw_t 15 rfl rfl rfl (do_callR (X' := .val (.int .i64 (Among n.N (va - 1)))) rfl rfl (t_Among n.N (va - 1) (by omega)) [] trivial rfl rfl rfl ?_)
  have hN3 : someN n va = 2 + Among n.N (va - 1) := rfl
  refine rw_t 16 rfl rfl rfl (do_add rfl rfl (by omega) ?_)
  refine rw_as (.val (.int .i64 (someN n va))) (rfl) ?_
  refine rw_t 17 rfl rfl rfl (do_build (out := [_, _, _, _]) rfl rfl ?_)
  refine rw_t 7 rfl rfl rfl (n_alloc (n := 3) rfl ?_)
  first
    | refine rw_u rfl rfl (n_store_box rfl rfl rfl (Nat.le_of_ble_eq_true rfl) rfl ?_)
    | refine rw_u rfl rfl (n_store_arr rfl rfl rfl (by omega) rfl (by decide) rfl ?_)
    | refine rw_u rfl rfl (n_store_whole rfl rfl rfl rfl rfl rfl ?_)
  refine rw_nil ?_
  refine w_seq ?_
  refine w_region ?_
  refine rw_t 18 rfl rfl rfl (do_fieldaddr rfl ?_)
  first
    | refine rw_t 19 rfl rfl rfl (do_load_box rfl rfl rfl ?_)
    | refine rw_t 19 rfl rfl rfl (do_load_arr rfl rfl (by omega) rfl ?_)
    | refine rw_t 19 rfl rfl rfl (n_load_boxagg [_] rfl rfl (Nat.le_of_ble_eq_true rfl) rfl ?_)
    | refine rw_t 19 rfl rfl rfl (n_load_arragg [_] rfl rfl rfl (by omega) rfl ?_)
  refine rw_t 20 rfl rfl rfl (do_fieldaddr rfl ?_)
  first
    | refine rw_t 21 rfl rfl rfl (do_load_box rfl rfl rfl ?_)
    | refine rw_t 21 rfl rfl rfl (do_load_arr rfl rfl (by omega) rfl ?_)
    | refine rw_t 21 rfl rfl rfl (n_load_boxagg [_] rfl rfl (Nat.le_of_ble_eq_true rfl) rfl ?_)
    | refine rw_t 21 rfl rfl rfl (n_load_arragg [_] rfl rfl rfl (by omega) rfl ?_)
  refine rw_t 22 rfl rfl rfl (do_callR (X' := .val (.int .i64 (Among n.S (someN n va)))) rfl rfl (t_Among n.S (someN n va) (by omega)) [] trivial rfl rfl rfl ?_)
  refine rw_as (.val (.int .i64 (someS n va))) (rfl) ?_
  refine rw_t 23 rfl rfl rfl (do_fieldaddr rfl ?_)
  first
    | refine rw_u rfl rfl (n_store_box rfl rfl rfl (Nat.le_of_ble_eq_true rfl) rfl ?_)
    | refine rw_u rfl rfl (n_store_arr rfl rfl rfl (by omega) rfl (by decide) rfl ?_)
    | refine rw_u rfl rfl (n_store_whole rfl rfl rfl rfl rfl rfl ?_)
  refine rw_nil ?_
  refine w_seq ?_
  refine w_region ?_
  refine rw_t 24 rfl rfl rfl (do_fieldaddr rfl ?_)
  first
    | refine rw_t 25 rfl rfl rfl (do_load_box rfl rfl rfl ?_)
    | refine rw_t 25 rfl rfl rfl (do_load_arr rfl rfl (by omega) rfl ?_)
    | refine rw_t 25 rfl rfl rfl (n_load_boxagg [_] rfl rfl (Nat.le_of_ble_eq_true rfl) rfl ?_)
    | refine rw_t 25 rfl rfl rfl (n_load_arragg [_] rfl rfl rfl (by omega) rfl ?_)
  refine rw_t 26 rfl rfl rfl (do_fieldaddr rfl ?_)
  first
    | refine rw_t 27 rfl rfl rfl (do_load_box rfl rfl rfl ?_)
    | refine rw_t 27 rfl rfl rfl (do_load_arr rfl rfl (by omega) rfl ?_)
    | refine rw_t 27 rfl rfl rfl (n_load_boxagg [_] rfl rfl (Nat.le_of_ble_eq_true rfl) rfl ?_)
    | refine rw_t 27 rfl rfl rfl (n_load_arragg [_] rfl rfl rfl (by omega) rfl ?_)
  refine rw_t 28 rfl rfl rfl (do_callR (X' := .val (.int .i64 (Among n.T (someN n va)))) rfl rfl (t_Among n.T (someN n va) (by omega)) [] trivial rfl rfl rfl ?_)
  refine rw_t 29 rfl rfl rfl (do_fieldaddr rfl ?_)
  first
    | refine rw_u rfl rfl (n_store_box rfl rfl rfl (Nat.le_of_ble_eq_true rfl) rfl ?_)
    | refine rw_u rfl rfl (n_store_arr rfl rfl rfl (by omega) rfl (by decide) rfl ?_)
    | refine rw_u rfl rfl (n_store_whole rfl rfl rfl rfl rfl rfl ?_)
  refine rw_nil ?_
  refine w_midS (ι := Int) (fun i => [(3, .ptr 1 0 0), (6, .ptr 2 0 0), (7, .ptr 3 0 0), (2, .val (.int .i64 (ar)))]) (fun i => [SO.arcs false n.arcs, .box [.val (.int .i64 n.N), .val (.int .i64 n.S), .val (.int .i64 n.T), .slc 0 0 n.arcs.length none], .box [.val (.int .i64 0), .val (.int .i64 0), .val (.int .i64 0), .val (.slice none 0 0)], .box [.val (.int .i64 (someN n va)), .val (.int .i64 (someS n va)), .val (.int .i64 (i)), .val (.slice none 0 0)]]) (fun i => i = someT n va) hρ ?_ ?_
  · refine w_seq ?_
    refine w_region ?_
    refine rw_t 30 rfl rfl rfl (do_fieldaddr rfl ?_)
    first
      | refine rw_t 31 rfl rfl rfl (do_load_box rfl rfl rfl ?_)
      | refine rw_t 31 rfl rfl rfl (do_load_arr rfl rfl (by omega) rfl ?_)
      | refine rw_t 31 rfl rfl rfl (n_load_boxagg [_] rfl rfl (Nat.le_of_ble_eq_true rfl) rfl ?_)
      | refine rw_t 31 rfl rfl rfl (n_load_arragg [_] rfl rfl rfl (by omega) rfl ?_)
    refine rw_t 32 rfl rfl rfl (do_fieldaddr rfl ?_)
    first
      | refine rw_t 33 rfl rfl rfl (do_load_box rfl rfl rfl ?_)
      | refine rw_t 33 rfl rfl rfl (do_load_arr rfl rfl (by omega) rfl ?_)
      | refine rw_t 33 rfl rfl rfl (n_load_boxagg [_] rfl rfl (Nat.le_of_ble_eq_true rfl) rfl ?_)
      | refine rw_t 33 rfl rfl rfl (n_load_arragg [_] rfl rfl rfl (by omega) rfl ?_)
    refine rw_t 34 rfl rfl rfl (do_bin rfl rfl rfl ?_)
    refine rw_nil ?_
    refine w_cond rfl (fun hc1 => ?_) (fun hc1 => ?_)
    all_goals simp only [bs] at hc1
    · -- region 5
      refine w_region ?_
      refine rw_t 35 rfl rfl rfl (do_fieldaddr rfl ?_)
      first
        | refine rw_t 36 rfl rfl rfl (do_load_box rfl rfl rfl ?_)
        | refine rw_t 36 rfl rfl rfl (do_load_arr rfl rfl (by omega) rfl ?_)
        | refine rw_t 36 rfl rfl rfl (n_load_boxagg [_] rfl rfl (Nat.le_of_ble_eq_true rfl) rfl ?_)
        | refine rw_t 36 rfl rfl rfl (n_load_arragg [_] rfl rfl rfl (by omega) rfl ?_)
      have hS2 : someS n va = Among n.S (someN n va) := rfl
      refine rw_t 37 rfl rfl rfl (do_add rfl rfl (by omega) ?_)
      refine rw_t 38 rfl rfl rfl (do_fieldaddr rfl ?_)
      first
        | refine rw_t 39 rfl rfl rfl (do_load_box rfl rfl rfl ?_)
        | refine rw_t 39 rfl rfl rfl (do_load_arr rfl rfl (by omega) rfl ?_)
        | refine rw_t 39 rfl rfl rfl (n_load_boxagg [_] rfl rfl (Nat.le_of_ble_eq_true rfl) rfl ?_)
        | refine rw_t 39 rfl rfl rfl (n_load_arragg [_] rfl rfl rfl (by omega) rfl ?_)
      refine rw_t 40 rfl rfl rfl (do_rem rfl rfl (by omega) ?_)
      refine rw_t 41 rfl rfl rfl (do_fieldaddr rfl ?_)
      first
        | refine rw_u rfl rfl (n_store_box rfl rfl rfl (Nat.le_of_ble_eq_true rfl) rfl ?_)
        | refine rw_u rfl rfl (n_store_arr rfl rfl rfl (by omega) rfl (by decide) rfl ?_)
        | refine rw_u rfl rfl (n_store_whole rfl rfl rfl rfl rfl rfl ?_)
      refine rw_nil ?_
      exact ⟨_, [0, 1, 2, 3], by dsimp only; unfold someT; rw [if_pos hc1], ⟨shR rfl, shR rfl, shR rfl, shR rfl, trivial⟩, rfl, pre_ok rfl, ⟨⟨_, rfl, rfl⟩, ⟨_, rfl, rfl⟩, ⟨_, rfl, rfl⟩, ⟨_, rfl, rfl⟩, trivial⟩⟩
    · refine w_skip ?_
      exact ⟨_, [0, 1, 2, 3], by dsimp only; unfold someT; rw [if_neg hc1], ⟨shR rfl, shR rfl, shR rfl, shR rfl, trivial⟩, rfl, pre_ok rfl, ⟨⟨_, rfl, rfl⟩, ⟨_, rfl, rfl⟩, ⟨_, rfl, rfl⟩, ⟨_, rfl, rfl⟩, trivial⟩⟩
  rintro _ rfl
  refine w_seq ?_
  refine w_seq ?_
  refine w_region ?_
  refine rw_t 42 rfl rfl rfl (do_fieldaddr rfl ?_)
  first
    | refine rw_t 43 rfl rfl rfl (do_load_box rfl rfl rfl ?_)
    | refine rw_t 43 rfl rfl rfl (do_load_arr rfl rfl (by omega) rfl ?_)
    | refine rw_t 43 rfl rfl rfl (n_load_boxagg [_] rfl rfl (Nat.le_of_ble_eq_true rfl) rfl ?_)
    | refine rw_t 43 rfl rfl rfl (n_load_arragg [_] rfl rfl rfl (by omega) rfl ?_)
  refine rw_t 44 rfl rfl rfl (do_fieldaddr rfl ?_)
  first
    | refine rw_t 45 rfl rfl rfl (do_load_box rfl rfl rfl ?_)
    | refine rw_t 45 rfl rfl rfl (do_load_arr rfl rfl (by omega) rfl ?_)
    | refine rw_t 45 rfl rfl rfl (n_load_boxagg [_] rfl rfl (Nat.le_of_ble_eq_true rfl) rfl ?_)
    | refine rw_t 45 rfl rfl rfl (n_load_arragg [_] rfl rfl rfl (by omega) rfl ?_)
  refine rw_t 46 rfl rfl rfl (do_len rfl ?_)
  refine rw_t 47 rfl rfl rfl (do_move rfl ?_)
  refine rw_t 48 rfl rfl rfl (do_min rfl rfl ?_)
  refine rw_as (.val (.int .i64 (((min n.arcs.length ar.toNat) : Nat)))) (val_congr (by split <;> omega)) ?_
  refine rw_t 49 rfl rfl rfl (do_slice (l := 0) rfl rfl rfl rfl rfl (by omega) (by omega) (by omega) ?_)
  refine rw_as (.slc 0 0 (min n.arcs.length ar.toNat) none) (by simp) ?_
  refine rw_t 50 rfl rfl rfl (do_len rfl ?_)
  refine rw_t 51 rfl rfl rfl (do_move rfl ?_)
  refine rw_nil ?_
  refine w_block ?_ -- block 0
  refine n_ghost Arc 3 encArc Arc.none (fun _ => rfl) (fun _ _ h => by simp [encArc] at h; rcases h with rfl | rfl | rfl <;> rfl) ?_
  refine n_nilB 3 3 4 0 rfl rfl ?_
  refine w_loopS (ι := Nat) (fun i => [(3, .ptr 1 0 0), (6, .ptr 2 0 0), (7, .ptr 3 0 0), (49, .slc 0 0 (min n.arcs.length ar.toNat) none), (50, .val (.int .i64 (((min n.arcs.length ar.toNat) : Nat)))), (51, .val (.int .i64 ((i : Nat))))]) (fun i => [SO.arcs false n.arcs, .box [.val (.int .i64 n.N), .val (.int .i64 n.S), .val (.int .i64 n.T), .slc 0 0 n.arcs.length none], .box [.val (.int .i64 0), .val (.int .i64 0), .val (.int .i64 0), .val (.slice none 0 0)], .box [.val (.int .i64 (someN n va)), .val (.int .i64 (someS n va)), .val (.int .i64 (someT n va)), .slc 4 0 i none], SO.arcs true ((n.arcs.take i).map (fitArc (someN n va)))]) (fun i => (min n.arcs.length ar.toNat) - i) (fun i => i ≤ (min n.arcs.length ar.toNat)) (0) [0, 1, 2, 3, 4] (by simp) ⟨shR rfl, shR rfl, shR rfl, shR rfl, shR rfl, trivial⟩ rfl (pre_ok rfl) hρ ⟨⟨_, rfl, rfl⟩, ⟨_, rfl, rfl⟩, ⟨_, rfl, rfl⟩, ⟨_, rfl, rfl⟩, ⟨_, rfl, rfl⟩, ⟨_, rfl, rfl⟩, trivial⟩ ?_
  intro i hi
  refine w_seq ?_
  refine w_region ?_
  refine rw_t 52 rfl rfl rfl (do_bin rfl rfl rfl ?_)
  refine rw_nil ?_
  refine w_seq ?_
  refine w_cond rfl (fun hc2 => ?_) (fun hc2 => ?_)
  all_goals simp only [bs] at hc2
  rotate_left
  · refine w_exit ?_
    refine w_seq ?_
    refine w_region ?_
    first
      | refine rw_t 81 rfl rfl rfl (do_load_box rfl rfl rfl ?_)
      | refine rw_t 81 rfl rfl rfl (do_load_arr rfl rfl (by omega) rfl ?_)
      | refine rw_t 81 rfl rfl rfl (n_load_boxagg [_, _, _, _] rfl rfl (Nat.le_of_ble_eq_true rfl) rfl ?_)
      | refine rw_t 81 rfl rfl rfl (n_load_arragg [_, _, _, _] rfl rfl rfl (by omega) rfl ?_)
    first
      | refine rw_u rfl rfl (n_store_box rfl rfl rfl (Nat.le_of_ble_eq_true rfl) rfl ?_)
      | refine rw_u rfl rfl (n_store_arr rfl rfl rfl (by omega) rfl (by decide) rfl ?_)
      | refine rw_u rfl rfl (n_store_whole rfl rfl rfl rfl rfl rfl ?_)
    refine rw_nil ?_
    refine w_ret ?_
    have hi' : i = (min n.arcs.length ar.toNat) := by omega
    subst hi'
    have hL : (someNet n va ar).arcs.length = (min n.arcs.length ar.toNat) := by simp [someNet]
    exact ret_eq (.inl rfl) (.cons (res_agg rfl rfl (Nat.le_of_ble_eq_true rfl)) .nil) [0, 4] (by show SV.agg [.val (.int .i64 (someN n va)), .val (.int .i64 (someS n va)), .val (.int .i64 (someT n va)), .slc 4 0 (min n.arcs.length ar.toNat) none] = SV.agg [.val (.int .i64 (someN n va)), .val (.int .i64 (someS n va)), .val (.int .i64 (someT n va)), .slc 4 0 (someNet n va ar).arcs.length none]; rw [hL]) ⟨shR rfl, shR rfl, trivial⟩ rfl (pre_ok rfl)
  refine w_skip ?_
  refine w_seq ?_
  refine w_block ?_ -- block 1
  refine w_seq ?_
  refine w_region ?_
  refine rw_t 53 rfl rfl rfl (do_ixn rfl rfl rfl (by omega) ?_)
  first
    | refine rw_t 54 rfl rfl rfl (do_load_box rfl rfl rfl ?_)
    | refine rw_t 54 rfl rfl rfl (do_load_arr rfl rfl (by omega) rfl ?_)
    | refine rw_t 54 rfl rfl rfl (n_load_boxagg [_, _, _] rfl rfl (Nat.le_of_ble_eq_true rfl) rfl ?_)
    | refine rw_t 54 rfl rfl rfl (n_load_arragg [_, _, _] rfl rfl rfl (by omega) rfl ?_)
  refine rw_t 9 rfl rfl rfl (n_alloc (n := 5) rfl ?_)
  first
    | refine rw_u rfl rfl (n_store_box rfl rfl rfl (Nat.le_of_ble_eq_true rfl) rfl ?_)
    | refine rw_u rfl rfl (n_store_arr rfl rfl rfl (by omega) rfl (by decide) rfl ?_)
    | refine rw_u rfl rfl (n_store_whole rfl rfl rfl rfl rfl rfl ?_)
  refine rw_nil ?_
  refine w_seq ?_
  have hcap' : In64 (n.arcs.getD i Arc.none).cap := hcap _ (getD_mem _ (by omega))
  unfold In64 at hcap'
  refine w_region ?_
  refine rw_t 55 rfl rfl rfl (do_fieldaddr rfl ?_)
  first
    | refine rw_t 56 rfl rfl rfl (do_load_box rfl rfl rfl ?_)
    | refine rw_t 56 rfl rfl rfl (do_load_arr rfl rfl (by omega) rfl ?_)
    | refine rw_t 56 rfl rfl rfl (n_load_boxagg [_] rfl rfl (Nat.le_of_ble_eq_true rfl) rfl ?_)
    | refine rw_t 56 rfl rfl rfl (n_load_arragg [_] rfl rfl rfl (by omega) rfl ?_)
  refine rw_t 10 rfl rfl rfl (do_assign rfl ?_)
  refine rw_nil ?_
  refine w_midS (ι := Int) (fun z => [(10, .val (.int .i64 (z))), (9, .ptr 5 0 0), (3, .ptr 1 0 0), (6, .ptr 2 0 0), (7, .ptr 3 0 0), (49, .slc 0 0 (min n.arcs.length ar.toNat) none), (50, .val (.int .i64 (((min n.arcs.length ar.toNat) : Nat)))), (51, .val (.int .i64 ((i : Nat))))]) (fun z => [SO.arcs false n.arcs, .box [.val (.int .i64 n.N), .val (.int .i64 n.S), .val (.int .i64 n.T), .slc 0 0 n.arcs.length none], .box [.val (.int .i64 0), .val (.int .i64 0), .val (.int .i64 0), .val (.slice none 0 0)], .box [.val (.int .i64 (someN n va)), .val (.int .i64 (someS n va)), .val (.int .i64 (someT n va)), .slc 4 0 i none], SO.arcs true ((n.arcs.take i).map (fitArc (someN n va))), .box ((encArc (n.arcs.getD i Arc.none)).map .val)]) (fun z => z = if (n.arcs.getD i Arc.none).cap < 0 then -((n.arcs.getD i Arc.none).cap + 1) else (n.arcs.getD i Arc.none).cap) hρ ?_ ?_
  · refine w_seq ?_
    refine w_region ?_
    refine rw_t 57 rfl rfl rfl (do_move rfl ?_)
    refine rw_as (.val (.int .i64 ((n.arcs.getD i Arc.none).cap))) (rfl) ?_
    refine rw_t 58 rfl rfl rfl (do_bin rfl rfl rfl ?_)
    refine rw_nil ?_
    refine w_cond rfl (fun hc3 => ?_) (fun hc3 => ?_)
    all_goals simp only [bs] at hc3
    · -- region 11
      refine w_region ?_
      refine rw_t 59 rfl rfl rfl (do_move rfl ?_)
      refine rw_t 60 rfl rfl rfl (do_add rfl rfl (by omega) ?_)
      refine rw_t 61 rfl rfl rfl (do_neg64 rfl (by omega) ?_)
      refine rw_t 10 rfl rfl rfl (do_assign rfl ?_)
      refine rw_nil ?_
      exact ⟨_, [0, 1, 2, 3, 4, 5], (if_pos hc3).symm, ⟨shR rfl, shR rfl, shR rfl, shR rfl, shR rfl, shR rfl, trivial⟩, rfl, pre_ok rfl, ⟨⟨_, rfl, rfl⟩, ⟨_, rfl, rfl⟩, ⟨_, rfl, rfl⟩, ⟨_, rfl, rfl⟩, ⟨_, rfl, rfl⟩, ⟨_, rfl, rfl⟩, ⟨_, rfl, rfl⟩, ⟨_, rfl, rfl⟩, trivial⟩⟩
    · refine w_skip ?_
      exact ⟨_, [0, 1, 2, 3, 4, 5], (if_neg hc3).symm, ⟨shR rfl, shR rfl, shR rfl, shR rfl, shR rfl, shR rfl, trivial⟩, rfl, pre_ok rfl, ⟨⟨_, rfl, rfl⟩, ⟨_, rfl, rfl⟩, ⟨_, rfl, rfl⟩, ⟨_, rfl, rfl⟩, ⟨_, rfl, rfl⟩, ⟨_, rfl, rfl⟩, ⟨_, rfl, rfl⟩, ⟨_, rfl, rfl⟩, trivial⟩⟩
  rintro _ rfl
  refine w_draw mixed [0, 1, 0, 4, 0, 16, 60, 0, 128, 0, 512, 2044, 0, 4096, 16380, 32764] [65535, 131071, 262143] (by kernel_rfl) (by kernel_rfl) rfl rfl rfl (hle hρ rfl) ?_
  refine ra_q (j := 0) rfl rfl rfl rfl (do_fieldaddr rfl ⟨rfl, rfl⟩) (by rfl) ?_
  first
    | refine ra_q (j := 1) rfl rfl rfl rfl (do_load_box rfl rfl rfl ⟨rfl, rfl⟩) (by rfl) ?_
    | refine ra_q (j := 1) rfl rfl rfl rfl (do_load_arr rfl rfl (by omega) rfl ⟨rfl, rfl⟩) (by rfl) ?_
    | refine ra_q (j := 1) rfl rfl rfl rfl (n_load_boxagg [_] rfl rfl (Nat.le_of_ble_eq_true rfl) rfl ⟨rfl, rfl⟩) (by rfl) ?_
    | refine ra_q (j := 1) rfl rfl rfl rfl (n_load_arragg [_] rfl rfl rfl (by omega) rfl ⟨rfl, rfl⟩) (by rfl) ?_
  refine ra_q (j := 2) rfl rfl rfl rfl (do_fieldaddr rfl ⟨rfl, rfl⟩) (by rfl) ?_
  first
    | refine ra_q (j := 3) rfl rfl rfl rfl (do_load_box rfl rfl rfl ⟨rfl, rfl⟩) (by rfl) ?_
    | refine ra_q (j := 3) rfl rfl rfl rfl (do_load_arr rfl rfl (by omega) rfl ⟨rfl, rfl⟩) (by rfl) ?_
    | refine ra_q (j := 3) rfl rfl rfl rfl (n_load_boxagg [_] rfl rfl (Nat.le_of_ble_eq_true rfl) rfl ⟨rfl, rfl⟩) (by rfl) ?_
    | refine ra_q (j := 3) rfl rfl rfl rfl (n_load_arragg [_] rfl rfl rfl (by omega) rfl ⟨rfl, rfl⟩) (by rfl) ?_
  refine ra_q (j := 4) rfl rfl rfl rfl (do_fieldaddr rfl ⟨rfl, rfl⟩) (by rfl) ?_
  first
    | refine ra_q (j := 5) rfl rfl rfl rfl (do_load_box rfl rfl rfl ⟨rfl, rfl⟩) (by rfl) ?_
    | refine ra_q (j := 5) rfl rfl rfl rfl (do_load_arr rfl rfl (by omega) rfl ⟨rfl, rfl⟩) (by rfl) ?_
    | refine ra_q (j := 5) rfl rfl rfl rfl (n_load_boxagg [_] rfl rfl (Nat.le_of_ble_eq_true rfl) rfl ⟨rfl, rfl⟩) (by rfl) ?_
    | refine ra_q (j := 5) rfl rfl rfl rfl (n_load_arragg [_] rfl rfl rfl (by omega) rfl ⟨rfl, rfl⟩) (by rfl) ?_
  refine ra_q (j := 6) rfl rfl rfl rfl (do_callR (X' := .val (.int .i64 (Among (n.arcs.getD i Arc.none).frm (someN n va)))) rfl rfl (t_Among (n.arcs.getD i Arc.none).frm (someN n va) (by omega)) [] trivial rfl rfl rfl ⟨rfl, rfl⟩) (by rfl) ?_
  refine ra_q (j := 7) rfl rfl rfl rfl (do_fieldaddr rfl ⟨rfl, rfl⟩) (by rfl) ?_
  first
    | refine ra_q (j := 8) rfl rfl rfl rfl (do_load_box rfl rfl rfl ⟨rfl, rfl⟩) (by rfl) ?_
    | refine ra_q (j := 8) rfl rfl rfl rfl (do_load_arr rfl rfl (by omega) rfl ⟨rfl, rfl⟩) (by rfl) ?_
    | refine ra_q (j := 8) rfl rfl rfl rfl (n_load_boxagg [_] rfl rfl (Nat.le_of_ble_eq_true rfl) rfl ⟨rfl, rfl⟩) (by rfl) ?_
    | refine ra_q (j := 8) rfl rfl rfl rfl (n_load_arragg [_] rfl rfl rfl (by omega) rfl ⟨rfl, rfl⟩) (by rfl) ?_
  refine ra_q (j := 9) rfl rfl rfl rfl (do_fieldaddr rfl ⟨rfl, rfl⟩) (by rfl) ?_
  first
    | refine ra_q (j := 10) rfl rfl rfl rfl (do_load_box rfl rfl rfl ⟨rfl, rfl⟩) (by rfl) ?_
    | refine ra_q (j := 10) rfl rfl rfl rfl (do_load_arr rfl rfl (by omega) rfl ⟨rfl, rfl⟩) (by rfl) ?_
    | refine ra_q (j := 10) rfl rfl rfl rfl (n_load_boxagg [_] rfl rfl (Nat.le_of_ble_eq_true rfl) rfl ⟨rfl, rfl⟩) (by rfl) ?_
    | refine ra_q (j := 10) rfl rfl rfl rfl (n_load_arragg [_] rfl rfl rfl (by omega) rfl ⟨rfl, rfl⟩) (by rfl) ?_
  refine ra_q (j := 11) rfl rfl rfl rfl (do_callR (X' := .val (.int .i64 (Among (n.arcs.getD i Arc.none).to (someN n va)))) rfl rfl (t_Among (n.arcs.getD i Arc.none).to (someN n va) (by omega)) [] trivial rfl rfl rfl ⟨rfl, rfl⟩) (by rfl) ?_
  refine ra_q (j := 12) rfl rfl rfl rfl (do_move rfl ⟨rfl, rfl⟩) (by rfl) ?_
  refine ra_q (j := 13) rfl rfl rfl rfl (do_rem rfl rfl (by omega) ⟨rfl, rfl⟩) (by rfl) ?_
  refine ra_q (j := 14) rfl rfl rfl rfl (do_build (out := [_, _, _]) rfl rfl ⟨rfl, rfl⟩) (by rfl) ?_
  refine ra_n (j := 15) rfl rfl rfl rfl (g_bs (nm := 6) Arc encArc Arc.none [fitArc (someN n va) (n.arcs.getD i Arc.none)] rfl rfl rfl rfl rfl (fun _ => rfl) (fun _ _ h => by simp [encArc] at h; rcases h with rfl | rfl | rfl <;> rfl) rfl ⟨rfl, rfl⟩) (by rfl) (by rfl) (by rfl) ?_
  refine n_done ?_
  refine rw_t 78 rfl rfl rfl (n_append_own (nm := 7) rfl rfl rfl rfl rfl (by simp only [List.length_map, List.length_take]; omega) (by simp) (by omega) (by omega) rfl ?_)
  refine rw_t 79 rfl rfl rfl (do_fieldaddr rfl ?_)
  first
    | refine rw_u rfl rfl (n_store_box rfl rfl rfl (Nat.le_of_ble_eq_true rfl) rfl ?_)
    | refine rw_u rfl rfl (n_store_arr rfl rfl rfl (by omega) rfl (by decide) rfl ?_)
    | refine rw_u rfl rfl (n_store_whole rfl rfl rfl rfl rfl rfl ?_)
  refine rw_nil ?_
  refine w_region ?_
  refine rw_t 80 rfl rfl rfl (do_add rfl rfl (by omega) ?_)
  refine rw_t 51 rfl rfl rfl (do_move rfl ?_)
  refine rw_nil ?_
  refine ⟨i + 1, [0, 1, 2, 3, 7], by dsimp only; omega, by omega, ⟨shR rfl, shR rfl, shR rfl, shR rfl, .inr ⟨_, rfl, .inl (congrArg (SO.arcs true) (map_cut (fitArc (someN n va)) Arc.none (by omega)))⟩, trivial⟩, rfl, pre_ok rfl, ⟨⟨_, rfl, rfl⟩, ⟨_, rfl, rfl⟩, ⟨_, rfl, rfl⟩, ⟨_, rfl, rfl⟩, ⟨_, rfl, rfl⟩, ⟨_, rfl, rfl⟩, trivial⟩⟩
end Go.Proofs

set_option linter.unusedVariables false
namespace Go.Proofs
open Go Go.Sx Go.RowKit
/-- A residual arc. -/
structure Row where
  hd : Int
  cap : Int
  arc : Int
  back : Bool
abbrev Row.none : Row := ⟨0, 0, 0, false⟩
def rowOf (v : Int) (a : Arc) (k : Nat) : List Row := if a.frm = a.to then [] else (if a.frm = v then [⟨a.to, a.cap, k, false⟩] else []) ++ (if a.to = v then [⟨a.frm, 0, k, true⟩] else [])
def rowsAt (n : Net) (v : Int) (k : Nat) : List Row := (List.range k).flatMap fun j => rowOf v (n.arcs.getD j Arc.none) j
def rowsOf (n : Net) (v : Nat) : List Row := (List.range v).flatMap fun (u : Nat) => rowsAt n (u : Int) n.arcs.length
def firstOf (n : Net) (v : Nat) : List Int := (List.range v).map fun (u : Nat) => ((rowsOf n u).length : Int)
def revAt (A : List Row) (i m : Nat) : List Int := ((List.range m).filter fun (j : Nat) => decide ((A.getD i Row.none).arc = (A.getD j Row.none).arc ∧ i ≠ j)).map fun (j : Nat) => (j : Int)
def revOf (A : List Row) (i : Nat) : List Int := (List.range i).flatMap fun i => revAt A i A.length
structure Csr where
  N : Int
  S : Int
  T : Int
  First : List Int
  Head : List Int
  Rev : List Int
  Cap : List Int
  Arc : List Int
  Back : List Bool
abbrev Csr.sv (c : Csr) (o : Nat) : SV := .agg [.val (.int .i64 c.N), .val (.int .i64 c.S), .val (.int .i64 c.T), .slc o 0 c.First.length none, .slc (o + 1) 0 c.Head.length none, .slc (o + 2) 0 c.Rev.length none, .slc (o + 3) 0 c.Cap.length none, .slc (o + 4) 0 c.Arc.length none, .slc (o + 5) 0 c.Back.length none]
abbrev Csr.os (own : Bool) (c : Csr) : List SO := [.ints own .i64 c.First, .ints own .i64 c.Head, .ints own .i64 c.Rev, .ints own .i64 c.Cap, .ints own .i64 c.Arc, .bools own c.Back]
def rows (n : Net) : List Row := rowsOf n n.N.toNat
def makeC (n : Net) : Csr := ⟨n.N, n.S, n.T, firstOf n n.N.toNat ++ [((rows n).length : Int)], (rows n).map Row.hd, revOf (rows n) (rows n).length, (rows n).map Row.cap, (rows n).map Row.arc, (rows n).map Row.back⟩
theorem map_app {α β : Type} (f : α → β) {l : List α} {n : Nat} (r : α) (h : n = l.length) : (l ++ [r]).map f = cut (l.map f) 0 n ++ cut [f r] 0 1 := by
  rw [cut_all (l.map f) (by simp [h]), cut_all (n := 1) [f r] rfl]; simp
theorem list_app {l : List Int} {n : Nat} (r : Int) (h : n = l.length) : l ++ [r] = cut l 0 n ++ cut [r] 0 1 := by
  rw [cut_all l h.symm, cut_all (n := 1) [r] rfl]
theorem rowsAt_next (n : Net) (v : Int) (k : Nat) : rowsAt n v (k + 1) = rowsAt n v k ++ rowOf v (n.arcs.getD k Arc.none) k := by simp [rowsAt, List.range_succ]
theorem rowsOf_next (n : Net) (v : Nat) : rowsOf n (v + 1) = rowsOf n v ++ rowsAt n v n.arcs.length := by simp [rowsOf, List.range_succ]
theorem firstOf_next (n : Net) (v : Nat) : firstOf n (v + 1) = firstOf n v ++ [((rowsOf n v).length : Int)] := by simp [firstOf, List.range_succ]
theorem firstOf_len (n : Net) (v : Nat) : (firstOf n v).length = v := by simp [firstOf]
theorem rowOf_len (v : Int) (a : Arc) (k : Nat) : (rowOf v a k).length ≤ 2 := by
  unfold rowOf
  split
  · simp
  · split <;> split <;> simp
theorem rowsAt_len (n : Net) (v : Int) (k : Nat) : (rowsAt n v k).length ≤ 2 * k := by
  induction k with
  | zero => simp [rowsAt]
  | succ k ih => rw [rowsAt_next, List.length_append]; have := rowOf_len v (n.arcs.getD k Arc.none) k; omega
theorem rowsOf_len (n : Net) (v : Nat) : (rowsOf n v).length ≤ v * (2 * n.arcs.length) := by
  induction v with
  | zero => simp [rowsOf]
  | succ v ih => rw [rowsOf_next, List.length_append]; have := rowsAt_len n v n.arcs.length; rw [Nat.add_mul]; omega
theorem revAt_next (A : List Row) (i m : Nat) : revAt A i (m + 1) = revAt A i m ++ (if (A.getD i Row.none).arc = (A.getD m Row.none).arc ∧ i ≠ m then [(m : Int)] else []) := by
  unfold revAt
  rw [List.range_succ, List.filter_append, List.map_append]
  congr 1
  by_cases h : (A.getD i Row.none).arc = (A.getD m Row.none).arc ∧ i ≠ m
  · rw [if_pos h]; simp only [List.filter_cons, decide_eq_true h]; rfl
  · rw [if_neg h]; simp only [List.filter_cons, decide_eq_false h]; rfl
theorem getD_arc (l : List Row) (i : Nat) : (l.map Row.arc).getD i 0 = (l.getD i Row.none).arc := by
  simp only [List.getD, List.getElem?_map]
  cases l[i]? <;> rfl
theorem len_snoc {α : Type} (l : List α) (x : α) : (l ++ [x]).length = l.length + 1 := by simp
theorem revOf_next (A : List Row) (i : Nat) : revOf A (i + 1) = revOf A i ++ revAt A i A.length := by simp [revOf, List.range_succ]
theorem revAt_len (A : List Row) (i m : Nat) : (revAt A i m).length ≤ m := by
  unfold revAt
  rw [List.length_map]
  exact Nat.le_trans (List.length_filter_le _ _) (by simp)
theorem revOf_len (A : List Row) (i : Nat) : (revOf A i).length ≤ i * A.length := by
  induction i with
  | zero => simp [revOf]
  | succ i ih => rw [revOf_next, List.length_append]; have := revAt_len A i A.length; rw [Nat.add_mul]; omega
end Go.Proofs

set_option linter.unusedVariables false
namespace Go.Proofs
open Go Go.Sx Go.RowKit
set_option maxHeartbeats 8000000 in
theorem t_Make (n : Net) (h : NetOK n) (hs : n.N ≤ 64 ∧ n.arcs.length ≤ 64) : Tri Try.prog 28 [n.sv 0] [SO.arcs false n.arcs] (fun s H => s = .tup [(makeC n).sv 1, .val (.int .i64 0)] ∧ H = [SO.arcs false n.arcs, SO.ints true .i64 (makeC n).First, SO.ints true .i64 (makeC n).Head, SO.ints true .i64 (makeC n).Rev, SO.ints true .i64 (makeC n).Cap, SO.ints true .i64 (makeC n).Arc, SO.bools true (makeC n).Back]) := by
  refine tri_of_w (fn := Try.f28) Try.func28 rfl (by simp [Try.f28]) ?_
  intro ρ w hρ
  refine w_seq ?_
  have hlo := h.lo
  refine w_region ?_
  refine rw_t 1 rfl rfl rfl (n_box_agg (n := 1) rfl  rfl ?_)
  refine rw_t 2 rfl rfl rfl (n_alloc (n := 2) rfl ?_)
  refine rw_t 3 rfl rfl rfl (do_assign rfl ?_)
  refine rw_nil ?_
  refine w_seq ?_
  refine w_region ?_
  first
    | refine rw_t 11 rfl rfl rfl (do_load_box rfl rfl rfl ?_)
    | refine rw_t 11 rfl rfl rfl (do_load_arr rfl rfl (by first | omega | (simp only [ls]; omega)) rfl ?_)
    | refine rw_t 11 rfl rfl rfl (n_load_boxagg [_, _, _, _] rfl rfl (Nat.le_of_ble_eq_true rfl) rfl ?_)
    | refine rw_t 11 rfl rfl rfl (n_load_arragg [_, _, _, _] rfl rfl rfl (by omega) rfl ?_)
  refine rw_t 12 rfl rfl rfl (do_callR (X' := .val (.int .i64 0)) rfl rfl (t_Check n h) [0] ⟨.inr ⟨_, rfl, srv⟩, trivial⟩ rfl rfl rfl ?_)
  refine rw_t 4 rfl rfl rfl (do_assign rfl ?_)
  refine rw_nil ?_
  refine w_seq ?_
  refine w_seq ?_
  refine w_region ?_
  refine rw_t 13 rfl rfl rfl (do_move rfl ?_)
  refine rw_t 14 rfl rfl rfl (do_bin rfl rfl rfl ?_)
  refine rw_nil ?_
  refine w_cond rfl (fun hc1 => ?_) (fun hc1 => ?_)
  · exfalso; first | (cases hc1; done) | (simp only [bs] at hc1; omega)
  refine w_skip ?_
  refine w_seq ?_
  refine w_region ?_
  refine rw_t 17 rfl rfl rfl (do_fieldaddr rfl ?_)
  first
    | refine rw_t 18 rfl rfl rfl (do_load_box rfl rfl rfl ?_)
    | refine rw_t 18 rfl rfl rfl (do_load_arr rfl rfl (by first | omega | (simp only [ls]; omega)) rfl ?_)
    | refine rw_t 18 rfl rfl rfl (n_load_boxagg [_] rfl rfl (Nat.le_of_ble_eq_true rfl) rfl ?_)
    | refine rw_t 18 rfl rfl rfl (n_load_arragg [_] rfl rfl rfl (by omega) rfl ?_)
  refine rw_t 19 rfl rfl rfl (do_fieldaddr rfl ?_)
  first
    | refine rw_t 20 rfl rfl rfl (do_load_box rfl rfl rfl ?_)
    | refine rw_t 20 rfl rfl rfl (do_load_arr rfl rfl (by first | omega | (simp only [ls]; omega)) rfl ?_)
    | refine rw_t 20 rfl rfl rfl (n_load_boxagg [_] rfl rfl (Nat.le_of_ble_eq_true rfl) rfl ?_)
    | refine rw_t 20 rfl rfl rfl (n_load_arragg [_] rfl rfl rfl (by omega) rfl ?_)
  refine rw_t 21 rfl rfl rfl (do_fieldaddr rfl ?_)
  first
    | refine rw_t 22 rfl rfl rfl (do_load_box rfl rfl rfl ?_)
    | refine rw_t 22 rfl rfl rfl (do_load_arr rfl rfl (by first | omega | (simp only [ls]; omega)) rfl ?_)
    | refine rw_t 22 rfl rfl rfl (n_load_boxagg [_] rfl rfl (Nat.le_of_ble_eq_true rfl) rfl ?_)
    | refine rw_t 22 rfl rfl rfl (n_load_arragg [_] rfl rfl rfl (by omega) rfl ?_)
  refine rw_t 23 rfl rfl rfl (do_build (out := [_, _, _, _, _, _, _, _, _]) rfl rfl ?_)
  refine rw_t 5 rfl rfl rfl (n_alloc (n := 3) rfl ?_)
  first
    | refine rw_u rfl rfl (n_store_box rfl rfl rfl (Nat.le_of_ble_eq_true rfl) rfl ?_)
    | refine rw_u rfl rfl (n_store_arr rfl rfl rfl (by omega) rfl (by decide) rfl ?_)
    | refine rw_u rfl rfl (n_store_whole rfl rfl rfl rfl rfl rfl ?_)
  refine rw_nil ?_
  refine w_seq ?_
  refine w_seq ?_
  refine w_region ?_
  refine rw_t 6 rfl rfl rfl (do_assign rfl ?_)
  refine rw_nil ?_
  refine w_block ?_ -- block 0
  refine n_ghost Int 1 (encI .i64) 0 (fun _ => rfl) (fun _ _ h => by simp [encI] at h; subst h; rfl) ?_
  refine n_ghost Int 1 (encI .i64) 0 (fun _ => rfl) (fun _ _ h => by simp [encI] at h; subst h; rfl) ?_
  refine n_ghost Int 1 (encI .i64) 0 (fun _ => rfl) (fun _ _ h => by simp [encI] at h; subst h; rfl) ?_
  refine n_ghost Int 1 (encI .i64) 0 (fun _ => rfl) (fun _ _ h => by simp [encI] at h; subst h; rfl) ?_
  refine n_ghost Int 1 (encI .i64) 0 (fun _ => rfl) (fun _ _ h => by simp [encI] at h; subst h; rfl) ?_
  refine n_ghost Bool 1 encB false (fun _ => rfl) (fun _ _ h => by simp [encB] at h; subst h; rfl) ?_
  refine n_nilB 3 3 4 0 rfl rfl ?_
  refine n_nilB 3 4 5 0 rfl rfl ?_
  refine n_nilB 3 5 6 0 rfl rfl ?_
  refine n_nilB 3 6 7 0 rfl rfl ?_
  refine n_nilB 3 7 8 0 rfl rfl ?_
  refine n_nilB 3 8 9 0 rfl rfl ?_
  refine w_loopS (ι := Nat × Nat) (fun i => [(1, .ptr 1 0 0), (2, .ptr 2 0 0), (5, .ptr 3 0 0), (6, .val (.int .i64 ((i.1 : Nat))))]) (fun i => [SO.arcs false n.arcs, .box [.val (.int .i64 n.N), .val (.int .i64 n.S), .val (.int .i64 n.T), .slc 0 0 n.arcs.length none], .box [.val (.int .i64 0), .val (.int .i64 0), .val (.int .i64 0), .val (.slice none 0 0), .val (.slice none 0 0), .val (.slice none 0 0), .val (.slice none 0 0), .val (.slice none 0 0), .val (.slice none 0 0)], .box [.val (.int .i64 n.N), .val (.int .i64 n.S), .val (.int .i64 n.T), .slc 4 0 (i.1) none, .slc 5 0 (i.2) none, .slc 6 0 (0) none, .slc 7 0 (i.2) none, .slc 8 0 (i.2) none, .slc 9 0 (i.2) none], SO.ints true .i64 (firstOf n i.1), SO.ints true .i64 ((rowsOf n i.1).map Row.hd), SO.ints true .i64 ([]), SO.ints true .i64 ((rowsOf n i.1).map Row.cap), SO.ints true .i64 ((rowsOf n i.1).map Row.arc), SO.bools true ((rowsOf n i.1).map Row.back)]) (fun i => n.N.toNat - i.1) (fun i => i.1 ≤ n.N.toNat ∧ i.2 = (rowsOf n i.1).length) (0, 0) [0, 1, 2, 3, 4, 5, 6, 7, 8, 9] (⟨by simp, rfl⟩) ⟨shR rfl, shR rfl, shR rfl, shR rfl, shR rfl, shR rfl, shR rfl, shR rfl, shR rfl, shR rfl, trivial⟩ rfl (pre_ok rfl) hρ ⟨⟨_, rfl, rfl⟩, ⟨_, rfl, rfl⟩, ⟨_, rfl, rfl⟩, ⟨_, rfl, rfl⟩, trivial⟩ ?_
  rintro ⟨v, L⟩ ⟨hv, hL⟩
  dsimp only at hv hL ⊢
  have hb := rowsOf_len n v
  have hb2 : v * (2 * n.arcs.length) ≤ 64 * (2 * 64) := Nat.mul_le_mul (by omega) (by omega)
  refine w_seq ?_
  refine w_seq ?_
  refine w_region ?_
  refine rw_t 24 rfl rfl rfl (do_move rfl ?_)
  refine rw_t 25 rfl rfl rfl (do_fieldaddr rfl ?_)
  first
    | refine rw_t 26 rfl rfl rfl (do_load_box rfl rfl rfl ?_)
    | refine rw_t 26 rfl rfl rfl (do_load_arr rfl rfl (by first | omega | (simp only [ls]; omega)) rfl ?_)
    | refine rw_t 26 rfl rfl rfl (n_load_boxagg [_] rfl rfl (Nat.le_of_ble_eq_true rfl) rfl ?_)
    | refine rw_t 26 rfl rfl rfl (n_load_arragg [_] rfl rfl rfl (by omega) rfl ?_)
  refine rw_t 27 rfl rfl rfl (do_bin rfl rfl rfl ?_)
  refine rw_nil ?_
  refine w_cond rfl (fun hc2 => ?_) (fun hc2 => ?_)
  all_goals simp only [bs] at hc2
  rotate_left
  · refine w_exit ?_
    refine w_seq ?_
    refine w_region ?_
    refine rw_t 111 rfl rfl rfl (do_fieldaddr rfl ?_)
    first
      | refine rw_t 112 rfl rfl rfl (do_load_box rfl rfl rfl ?_)
      | refine rw_t 112 rfl rfl rfl (do_load_arr rfl rfl (by first | omega | (simp only [ls]; omega)) rfl ?_)
      | refine rw_t 112 rfl rfl rfl (n_load_boxagg [_] rfl rfl (Nat.le_of_ble_eq_true rfl) rfl ?_)
      | refine rw_t 112 rfl rfl rfl (n_load_arragg [_] rfl rfl rfl (by omega) rfl ?_)
    refine rw_t 113 rfl rfl rfl (do_fieldaddr rfl ?_)
    first
      | refine rw_t 114 rfl rfl rfl (do_load_box rfl rfl rfl ?_)
      | refine rw_t 114 rfl rfl rfl (do_load_arr rfl rfl (by first | omega | (simp only [ls]; omega)) rfl ?_)
      | refine rw_t 114 rfl rfl rfl (n_load_boxagg [_] rfl rfl (Nat.le_of_ble_eq_true rfl) rfl ?_)
      | refine rw_t 114 rfl rfl rfl (n_load_arragg [_] rfl rfl rfl (by omega) rfl ?_)
    refine rw_t 115 rfl rfl rfl (do_len rfl ?_)
    refine rw_t 116 rfl rfl rfl (n_bs (nm := 10) Int (encI .i64) 0 [(L : Int)] rfl rfl rfl rfl rfl (fun _ => rfl) (fun _ _ h => by simp [encI] at h; subst h; rfl) rfl ?_)
    refine rw_t 117 rfl rfl rfl (n_append_own (nm := 11) rfl rfl rfl rfl rfl (by first | omega | (simp only [List.length_map, firstOf_len]; omega)) (by simp) (by omega) (by omega) rfl ?_)
    refine rw_t 118 rfl rfl rfl (do_fieldaddr rfl ?_)
    first
      | refine rw_u rfl rfl (n_store_box rfl rfl rfl (Nat.le_of_ble_eq_true rfl) rfl ?_)
      | refine rw_u rfl rfl (n_store_arr rfl rfl rfl (by omega) rfl (by decide) rfl ?_)
      | refine rw_u rfl rfl (n_store_whole rfl rfl rfl rfl rfl rfl ?_)
    refine rw_nil ?_
    refine w_seq ?_
    refine w_seq ?_
    refine w_region ?_
    refine rw_t 9 rfl rfl rfl (do_assign rfl ?_)
    refine rw_nil ?_
    refine w_block ?_ -- block 4
    have hv' : v = n.N.toNat := by omega
    subst hv'
    subst hL
    have hA : (rows n).length ≤ 8192 := by show (rowsOf n n.N.toNat).length ≤ 8192; omega
    refine w_loopS (ι := Nat × Nat) (fun q => [(1, .ptr 1 0 0), (2, .ptr 2 0 0), (5, .ptr 3 0 0), (9, .val (.int .i64 ((q.1 : Nat))))]) (fun q => [SO.arcs false n.arcs, .box [.val (.int .i64 n.N), .val (.int .i64 n.S), .val (.int .i64 n.T), .slc 0 0 n.arcs.length none], .box [.val (.int .i64 0), .val (.int .i64 0), .val (.int .i64 0), .val (.slice none 0 0), .val (.slice none 0 0), .val (.slice none 0 0), .val (.slice none 0 0), .val (.slice none 0 0), .val (.slice none 0 0)], .box [.val (.int .i64 n.N), .val (.int .i64 n.S), .val (.int .i64 n.T), .slc 4 0 (n.N.toNat + 1) none, .slc 5 0 ((rows n).length) none, .slc 6 0 (q.2) none, .slc 7 0 ((rows n).length) none, .slc 8 0 ((rows n).length) none, .slc 9 0 ((rows n).length) none], SO.ints true .i64 (firstOf n n.N.toNat ++ [((rows n).length : Int)]), SO.ints true .i64 ((rows n).map Row.hd), SO.ints true .i64 (revOf (rows n) q.1), SO.ints true .i64 ((rows n).map Row.cap), SO.ints true .i64 ((rows n).map Row.arc), SO.bools true ((rows n).map Row.back)]) (fun q => (rows n).length - q.1) (fun q => q.1 ≤ (rows n).length ∧ q.2 = (revOf (rows n) q.1).length) (0, 0) [0, 1, 2, 3, 11, 5, 6, 7, 8, 9] (⟨by simp, rfl⟩) ⟨shR rfl, shR rfl, shR rfl, shR rfl, .inr ⟨_, rfl, .inl (congrArg (SO.ints true .i64) (list_app _ (firstOf_len n _).symm))⟩, shR rfl, shR rfl, shR rfl, shR rfl, shR rfl, trivial⟩ rfl (pre_ok rfl) hρ ⟨⟨_, rfl, rfl⟩, ⟨_, rfl, rfl⟩, ⟨_, rfl, rfl⟩, ⟨_, rfl, rfl⟩, trivial⟩ ?_
    rintro ⟨i, RL⟩ ⟨hi, hRL⟩
    dsimp only at hi hRL ⊢
    have hr1 := revOf_len (rows n) i
    have hr2 : i * (rows n).length ≤ 8192 * 8192 := Nat.mul_le_mul (by omega) (by omega)
    refine w_seq ?_
    refine w_seq ?_
    refine w_region ?_
    refine rw_t 119 rfl rfl rfl (do_move rfl ?_)
    refine rw_t 120 rfl rfl rfl (do_fieldaddr rfl ?_)
    first
      | refine rw_t 121 rfl rfl rfl (do_load_box rfl rfl rfl ?_)
      | refine rw_t 121 rfl rfl rfl (do_load_arr rfl rfl (by first | omega | (simp only [ls]; omega)) rfl ?_)
      | refine rw_t 121 rfl rfl rfl (n_load_boxagg [_] rfl rfl (Nat.le_of_ble_eq_true rfl) rfl ?_)
      | refine rw_t 121 rfl rfl rfl (n_load_arragg [_] rfl rfl rfl (by omega) rfl ?_)
    refine rw_t 122 rfl rfl rfl (do_len rfl ?_)
    refine rw_t 123 rfl rfl rfl (do_bin rfl rfl rfl ?_)
    refine rw_nil ?_
    refine w_cond rfl (fun hc3 => ?_) (fun hc3 => ?_)
    all_goals simp only [bs] at hc3
    rotate_left
    · refine w_exit ?_
      refine w_seq ?_
      refine w_region ?_
      first
        | refine rw_t 155 rfl rfl rfl (do_load_box rfl rfl rfl ?_)
        | refine rw_t 155 rfl rfl rfl (do_load_arr rfl rfl (by first | omega | (simp only [ls]; omega)) rfl ?_)
        | refine rw_t 155 rfl rfl rfl (n_load_boxagg [_, _, _, _, _, _, _, _, _] rfl rfl (Nat.le_of_ble_eq_true rfl) rfl ?_)
        | refine rw_t 155 rfl rfl rfl (n_load_arragg [_, _, _, _, _, _, _, _, _] rfl rfl rfl (by omega) rfl ?_)
      first
        | refine rw_u rfl rfl (n_store_box rfl rfl rfl (Nat.le_of_ble_eq_true rfl) rfl ?_)
        | refine rw_u rfl rfl (n_store_arr rfl rfl rfl (by omega) rfl (by decide) rfl ?_)
        | refine rw_u rfl rfl (n_store_whole rfl rfl rfl rfl rfl rfl ?_)
      refine rw_t 3 rfl rfl rfl (do_assign rfl ?_)
      refine rw_nil ?_
      refine w_ret ?_
      have hi' : i = (rows n).length := by omega
      subst hi'
      have e1 : (makeC n).First.length = n.N.toNat + 1 := by simp [makeC, firstOf_len]
      have e2 : (makeC n).Head.length = (rows n).length := by simp [makeC]
      have e3 : (makeC n).Rev.length = RL := hRL.symm
      have e4 : (makeC n).Cap.length = (rows n).length := by simp [makeC]
      have e5 : (makeC n).Arc.length = (rows n).length := by simp [makeC]
      have e6 : (makeC n).Back.length = (rows n).length := by simp [makeC]
      exact ret_eq (.inl rfl) (.cons (res_agg rfl rfl (Nat.le_of_ble_eq_true rfl)) (.cons (res_tmp rfl) .nil)) [0, 4, 5, 6, 7, 8, 9] (by show SV.tup [SV.agg [.val (.int .i64 n.N), .val (.int .i64 n.S), .val (.int .i64 n.T), .slc 4 0 (n.N.toNat + 1) none, .slc 5 0 (rows n).length none, .slc 6 0 RL none, .slc 7 0 (rows n).length none, .slc 8 0 (rows n).length none, .slc 9 0 (rows n).length none], .val (.int .i64 0)] = SV.tup [SV.agg [.val (.int .i64 n.N), .val (.int .i64 n.S), .val (.int .i64 n.T), .slc 4 0 (makeC n).First.length none, .slc 5 0 (makeC n).Head.length none, .slc 6 0 (makeC n).Rev.length none, .slc 7 0 (makeC n).Cap.length none, .slc 8 0 (makeC n).Arc.length none, .slc 9 0 (makeC n).Back.length none], .val (.int .i64 0)]; rw [e1, e2, e3, e4, e5, e6]) ⟨shR rfl, shR rfl, shR rfl, shR rfl, shR rfl, shR rfl, shR rfl, trivial⟩ rfl (pre_ok rfl)
    refine w_skip ?_
    refine w_seq ?_
    refine w_block ?_ -- block 5
    refine w_seq ?_
    refine w_region ?_
    refine rw_t 10 rfl rfl rfl (do_assign rfl ?_)
    refine rw_nil ?_
    refine w_block ?_ -- block 6
    refine w_loopS (ι := Nat × Nat) (fun q => [(1, .ptr 1 0 0), (2, .ptr 2 0 0), (5, .ptr 3 0 0), (9, .val (.int .i64 ((i : Nat)))), (10, .val (.int .i64 ((q.1 : Nat))))]) (fun q => [SO.arcs false n.arcs, .box [.val (.int .i64 n.N), .val (.int .i64 n.S), .val (.int .i64 n.T), .slc 0 0 n.arcs.length none], .box [.val (.int .i64 0), .val (.int .i64 0), .val (.int .i64 0), .val (.slice none 0 0), .val (.slice none 0 0), .val (.slice none 0 0), .val (.slice none 0 0), .val (.slice none 0 0), .val (.slice none 0 0)], .box [.val (.int .i64 n.N), .val (.int .i64 n.S), .val (.int .i64 n.T), .slc 4 0 (n.N.toNat + 1) none, .slc 5 0 ((rows n).length) none, .slc 6 0 (q.2) none, .slc 7 0 ((rows n).length) none, .slc 8 0 ((rows n).length) none, .slc 9 0 ((rows n).length) none], SO.ints true .i64 (firstOf n n.N.toNat ++ [((rows n).length : Int)]), SO.ints true .i64 ((rows n).map Row.hd), SO.ints true .i64 (revOf (rows n) i ++ revAt (rows n) i q.1), SO.ints true .i64 ((rows n).map Row.cap), SO.ints true .i64 ((rows n).map Row.arc), SO.bools true ((rows n).map Row.back)]) (fun q => (rows n).length - q.1) (fun q => q.1 ≤ (rows n).length ∧ q.2 = (revOf (rows n) i ++ revAt (rows n) i q.1).length) (0, RL) [0, 1, 2, 3, 4, 5, 6, 7, 8, 9] (⟨by simp, by dsimp only; rw [hRL]; simp [revAt]⟩) ⟨shR rfl, shR rfl, shR rfl, shR rfl, shR rfl, shR rfl, .inr ⟨_, rfl, .inl (congrArg (SO.ints true .i64) (List.append_nil (revOf (rows n) i)))⟩, shR rfl, shR rfl, shR rfl, trivial⟩ rfl (pre_ok rfl) hρ ⟨⟨_, rfl, rfl⟩, ⟨_, rfl, rfl⟩, ⟨_, rfl, rfl⟩, ⟨_, rfl, rfl⟩, ⟨_, rfl, rfl⟩, trivial⟩ ?_
    rintro ⟨j, RL2⟩ ⟨hj, hRL2⟩
    dsimp only at hj hRL2 ⊢
    have hr3 := revAt_len (rows n) i j
    have hr4 : RL2 ≤ 8192 * 8192 + 8192 := by rw [hRL2, List.length_append]; omega
    refine w_seq ?_
    refine w_seq ?_
    refine w_region ?_
    refine rw_t 126 rfl rfl rfl (do_move rfl ?_)
    refine rw_t 127 rfl rfl rfl (do_fieldaddr rfl ?_)
    first
      | refine rw_t 128 rfl rfl rfl (do_load_box rfl rfl rfl ?_)
      | refine rw_t 128 rfl rfl rfl (do_load_arr rfl rfl (by first | omega | (simp only [ls]; omega)) rfl ?_)
      | refine rw_t 128 rfl rfl rfl (n_load_boxagg [_] rfl rfl (Nat.le_of_ble_eq_true rfl) rfl ?_)
      | refine rw_t 128 rfl rfl rfl (n_load_arragg [_] rfl rfl rfl (by omega) rfl ?_)
    refine rw_t 129 rfl rfl rfl (do_len rfl ?_)
    refine rw_t 130 rfl rfl rfl (do_bin rfl rfl rfl ?_)
    refine rw_nil ?_
    refine w_cond rfl (fun hc4 => ?_) (fun hc4 => ?_)
    all_goals simp only [bs] at hc4
    rotate_left
    · refine w_exit ?_
      refine w_region ?_
      refine rw_t 124 rfl rfl rfl (do_move rfl ?_)
      refine rw_t 125 rfl rfl rfl (do_add rfl rfl (by omega) ?_)
      refine rw_t 9 rfl rfl rfl (do_assign rfl ?_)
      refine rw_nil ?_
      have hj' : j = (rows n).length := by omega
      subst hj'
      refine ⟨(i + 1, RL2), [0, 1, 2, 3, 4, 5, 6, 7, 8, 9], by dsimp only; omega, ⟨by dsimp only; omega, by dsimp only; rw [revOf_next]; exact hRL2⟩, ⟨shR rfl, shR rfl, shR rfl, shR rfl, shR rfl, shR rfl, .inr ⟨_, rfl, .inl (congrArg (SO.ints true .i64) (revOf_next (rows n) i))⟩, shR rfl, shR rfl, shR rfl, trivial⟩, rfl, pre_ok rfl, ⟨⟨_, rfl, rfl⟩, ⟨_, rfl, rfl⟩, ⟨_, rfl, rfl⟩, ⟨_, rfl, rfl⟩, trivial⟩⟩
    refine w_skip ?_
    refine w_seq ?_
    refine w_block ?_ -- block 7
    refine w_seqB 148 (((rows n).map Row.arc).getD i 0 = ((rows n).map Row.arc).getD j 0 ∧ (i : Int) ≠ (j : Int)) ?_ ?_
    · -- region 31
      refine w_draw mixed [0, 1, 0, 7, 15, 0, 32, 0, 224, 480, 1023, 2047, 4095, 4095] [16383, 32767] (by kernel_rfl) (by kernel_rfl) rfl rfl rfl (hle hρ rfl) ?_
      refine ra_q (j := 0) rfl rfl rfl rfl (do_fieldaddr rfl ⟨rfl, rfl⟩) (by rfl) ?_
      first
        | refine ra_q (j := 1) rfl rfl rfl rfl (do_load_box rfl rfl rfl ⟨rfl, rfl⟩) (by rfl) ?_
        | refine ra_q (j := 1) rfl rfl rfl rfl (do_load_arr rfl rfl (by first | omega | (simp only [ls]; omega)) rfl ⟨rfl, rfl⟩) (by rfl) ?_
        | refine ra_q (j := 1) rfl rfl rfl rfl (n_load_boxagg [_] rfl rfl (Nat.le_of_ble_eq_true rfl) rfl ⟨rfl, rfl⟩) (by rfl) ?_
        | refine ra_q (j := 1) rfl rfl rfl rfl (n_load_arragg [_] rfl rfl rfl (by omega) rfl ⟨rfl, rfl⟩) (by rfl) ?_
      refine ra_q (j := 2) rfl rfl rfl rfl (do_move rfl ⟨rfl, rfl⟩) (by rfl) ?_
      first
        | refine ra_q (j := 3) rfl rfl rfl rfl (do_ixn rfl rfl rfl (by omega) ⟨rfl, rfl⟩) (by rfl) ?_
        | refine ra_q (j := 3) rfl rfl rfl rfl (do_ix0 rfl rfl rfl (by omega) ⟨rfl, rfl⟩) (by rfl) ?_
        | refine ra_q (j := 3) rfl rfl rfl rfl (do_ix rfl rfl rfl (by omega) ⟨rfl, rfl⟩) (by rfl) ?_
      first
        | refine ra_q (j := 4) rfl rfl rfl rfl (do_load_box rfl rfl rfl ⟨rfl, rfl⟩) (by rfl) ?_
        | refine ra_q (j := 4) rfl rfl rfl rfl (do_load_arr rfl rfl (by first | omega | (simp only [ls]; omega)) rfl ⟨rfl, rfl⟩) (by rfl) ?_
        | refine ra_q (j := 4) rfl rfl rfl rfl (n_load_boxagg [_] rfl rfl (Nat.le_of_ble_eq_true rfl) rfl ⟨rfl, rfl⟩) (by rfl) ?_
        | refine ra_q (j := 4) rfl rfl rfl rfl (n_load_arragg [_] rfl rfl rfl (by omega) rfl ⟨rfl, rfl⟩) (by rfl) ?_
      refine ra_q (j := 5) rfl rfl rfl rfl (do_fieldaddr rfl ⟨rfl, rfl⟩) (by rfl) ?_
      first
        | refine ra_q (j := 6) rfl rfl rfl rfl (do_load_box rfl rfl rfl ⟨rfl, rfl⟩) (by rfl) ?_
        | refine ra_q (j := 6) rfl rfl rfl rfl (do_load_arr rfl rfl (by first | omega | (simp only [ls]; omega)) rfl ⟨rfl, rfl⟩) (by rfl) ?_
        | refine ra_q (j := 6) rfl rfl rfl rfl (n_load_boxagg [_] rfl rfl (Nat.le_of_ble_eq_true rfl) rfl ⟨rfl, rfl⟩) (by rfl) ?_
        | refine ra_q (j := 6) rfl rfl rfl rfl (n_load_arragg [_] rfl rfl rfl (by omega) rfl ⟨rfl, rfl⟩) (by rfl) ?_
      refine ra_q (j := 7) rfl rfl rfl rfl (do_move rfl ⟨rfl, rfl⟩) (by rfl) ?_
      first
        | refine ra_q (j := 8) rfl rfl rfl rfl (do_ixn rfl rfl rfl (by omega) ⟨rfl, rfl⟩) (by rfl) ?_
        | refine ra_q (j := 8) rfl rfl rfl rfl (do_ix0 rfl rfl rfl (by omega) ⟨rfl, rfl⟩) (by rfl) ?_
        | refine ra_q (j := 8) rfl rfl rfl rfl (do_ix rfl rfl rfl (by omega) ⟨rfl, rfl⟩) (by rfl) ?_
      first
        | refine ra_q (j := 9) rfl rfl rfl rfl (do_load_box rfl rfl rfl ⟨rfl, rfl⟩) (by rfl) ?_
        | refine ra_q (j := 9) rfl rfl rfl rfl (do_load_arr rfl rfl (by first | omega | (simp only [ls]; omega)) rfl ⟨rfl, rfl⟩) (by rfl) ?_
        | refine ra_q (j := 9) rfl rfl rfl rfl (n_load_boxagg [_] rfl rfl (Nat.le_of_ble_eq_true rfl) rfl ⟨rfl, rfl⟩) (by rfl) ?_
        | refine ra_q (j := 9) rfl rfl rfl rfl (n_load_arragg [_] rfl rfl rfl (by omega) rfl ⟨rfl, rfl⟩) (by rfl) ?_
      refine ra_q (j := 10) rfl rfl rfl rfl (do_bin rfl rfl rfl ⟨rfl, rfl⟩) (by rfl) ?_
      refine ra_q (j := 11) rfl rfl rfl rfl (do_move rfl ⟨rfl, rfl⟩) (by rfl) ?_
      refine ra_case 144 rfl (fun g1 => ?_) (fun g1 => ?_)
      · have kg1 := g1
        simp only [bs] at kg1
        refine ra_gt (j := 12) rfl rfl rfl rfl (by first | rfl | assumption | (simp only [bs]; omega) | (simp [*]; done)) rfl rfl rfl (do_move rfl ⟨rfl, rfl⟩) (by rfl) ?_
        refine ra_gt (j := 13) rfl rfl rfl rfl (by first | rfl | assumption | (simp only [bs]; omega) | (simp [*]; done)) rfl rfl rfl (do_move rfl ⟨rfl, rfl⟩) (by rfl) ?_
        refine n_done ?_
        refine rw_gt 147 11 144 true rfl rfl rfl rfl rfl rfl (by first | rfl | assumption | (simp only [bs]; omega) | (simp [*]; done)) (do_bin rfl rfl rfl ?_)
        refine rw_t 148 rfl rfl rfl (do_pick_t rfl (by first | rfl | assumption | (simp only [bs]; omega) | (simp [*]; done)) rfl ?_)
        refine rw_nil ?_
        refine ⟨rfl, ⟨_, rfl, by first | (simp only [bs]; omega) | (simp; done) | (simp; omega) | (constructor <;> intro h <;> simp_all <;> omega)⟩, ?_⟩
        repeat (refine ⟨⟨_, rfl, rfl⟩, ?_⟩)
        exact trivial
      · have kg1 := g1
        simp only [bs] at kg1
        refine ra_gf (j := 12) rfl rfl rfl rfl (by first | decide | (simp only [bs]; omega) | (simp [*]; done) | (intro h; simp_all)) rfl rfl rfl ?_
        refine ra_gf (j := 13) rfl rfl rfl rfl (by first | decide | (simp only [bs]; omega) | (simp [*]; done) | (intro h; simp_all)) rfl rfl rfl ?_
        refine n_done ?_
        refine rw_gf 147 11 144 true rfl rfl rfl rfl rfl rfl (by first | decide | (simp only [bs]; omega) | (simp [*]; done) | (intro h; simp_all)) ?_
        refine rw_t 148 rfl rfl rfl (do_pick_f rfl (by first | rfl | assumption | (simp only [bs]; omega) | (simp [*]; done)) rfl ?_)
        refine rw_nil ?_
        refine ⟨rfl, ⟨_, rfl, by first | (simp only [bs]; omega) | (simp; done) | (simp; omega) | (constructor <;> intro h <;> simp_all <;> omega)⟩, ?_⟩
        repeat (refine ⟨⟨_, rfl, rfl⟩, ?_⟩)
        exact trivial
    intro b1 hb1
    refine w_condP hb1 rfl (fun hc5 => ?_) (fun hc5 => ?_)
    · -- region 32
      refine w_region ?_
      refine rw_t 149 rfl rfl rfl (do_fieldaddr rfl ?_)
      first
        | refine rw_t 150 rfl rfl rfl (do_load_box rfl rfl rfl ?_)
        | refine rw_t 150 rfl rfl rfl (do_load_arr rfl rfl (by first | omega | (simp only [ls]; omega)) rfl ?_)
        | refine rw_t 150 rfl rfl rfl (n_load_boxagg [_] rfl rfl (Nat.le_of_ble_eq_true rfl) rfl ?_)
        | refine rw_t 150 rfl rfl rfl (n_load_arragg [_] rfl rfl rfl (by omega) rfl ?_)
      refine rw_t 151 rfl rfl rfl (do_move rfl ?_)
      refine rw_t 152 rfl rfl rfl (n_bs (nm := 10) Int (encI .i64) 0 [(j : Int)] rfl rfl rfl rfl rfl (fun _ => rfl) (fun _ _ h => by simp [encI] at h; subst h; rfl) rfl ?_)
      refine rw_t 153 rfl rfl rfl (n_append_own (nm := 11) rfl rfl rfl rfl rfl (by first | omega | (simp only [List.length_map, firstOf_len]; omega)) (by simp) (by omega) (by omega) rfl ?_)
      refine rw_t 154 rfl rfl rfl (do_fieldaddr rfl ?_)
      first
        | refine rw_u rfl rfl (n_store_box rfl rfl rfl (Nat.le_of_ble_eq_true rfl) rfl ?_)
        | refine rw_u rfl rfl (n_store_arr rfl rfl rfl (by omega) rfl (by decide) rfl ?_)
        | refine rw_u rfl rfl (n_store_whole rfl rfl rfl rfl rfl rfl ?_)
      refine rw_nil ?_
      refine w_region ?_
      refine rw_t 131 rfl rfl rfl (do_move rfl ?_)
      refine rw_t 132 rfl rfl rfl (do_add rfl rfl (by omega) ?_)
      refine rw_t 10 rfl rfl rfl (do_assign rfl ?_)
      refine rw_nil ?_
      rw [getD_arc, getD_arc] at hc5
      have PF : revOf (rows n) i ++ revAt (rows n) i (j + 1) = (revOf (rows n) i ++ revAt (rows n) i j) ++ [(j : Int)] := by rw [revAt_next, if_pos ⟨hc5.1, fun e => hc5.2 (by rw [e])⟩, List.append_assoc]
      refine ⟨(j + 1, RL2 + 1), [0, 1, 2, 3, 4, 5, 11, 7, 8, 9], by dsimp only; omega, ⟨by dsimp only; omega, by dsimp only; rw [PF, hRL2]; exact (len_snoc _ _).symm⟩, ⟨shR rfl, shR rfl, shR rfl, shR rfl, shR rfl, shR rfl, .inr ⟨_, rfl, .inl (congrArg (SO.ints true .i64) (PF.trans (list_app (j : Int) hRL2)))⟩, shR rfl, shR rfl, shR rfl, trivial⟩, rfl, pre_ok rfl, ⟨⟨_, rfl, rfl⟩, ⟨_, rfl, rfl⟩, ⟨_, rfl, rfl⟩, ⟨_, rfl, rfl⟩, ⟨_, rfl, rfl⟩, trivial⟩⟩
    · refine w_skip ?_
      refine w_region ?_
      refine rw_t 131 rfl rfl rfl (do_move rfl ?_)
      refine rw_t 132 rfl rfl rfl (do_add rfl rfl (by omega) ?_)
      refine rw_t 10 rfl rfl rfl (do_assign rfl ?_)
      refine rw_nil ?_
      rw [getD_arc, getD_arc] at hc5
      have PF : revOf (rows n) i ++ revAt (rows n) i (j + 1) = revOf (rows n) i ++ revAt (rows n) i j := by rw [revAt_next, if_neg (fun e => hc5 ⟨e.1, fun e2 => e.2 (by omega)⟩), List.append_nil]
      refine ⟨(j + 1, RL2), [0, 1, 2, 3, 4, 5, 6, 7, 8, 9], by dsimp only; omega, ⟨by dsimp only; omega, by dsimp only; rw [PF]; exact hRL2⟩, ⟨shR rfl, shR rfl, shR rfl, shR rfl, shR rfl, shR rfl, .inr ⟨_, rfl, .inl (congrArg (SO.ints true .i64) PF)⟩, shR rfl, shR rfl, shR rfl, trivial⟩, rfl, pre_ok rfl, ⟨⟨_, rfl, rfl⟩, ⟨_, rfl, rfl⟩, ⟨_, rfl, rfl⟩, ⟨_, rfl, rfl⟩, ⟨_, rfl, rfl⟩, trivial⟩⟩
  refine w_skip ?_
  refine w_seq ?_
  refine w_block ?_ -- block 1
  refine w_seq ?_
  refine w_region ?_
  refine rw_t 30 rfl rfl rfl (do_fieldaddr rfl ?_)
  first
    | refine rw_t 31 rfl rfl rfl (do_load_box rfl rfl rfl ?_)
    | refine rw_t 31 rfl rfl rfl (do_load_arr rfl rfl (by first | omega | (simp only [ls]; omega)) rfl ?_)
    | refine rw_t 31 rfl rfl rfl (n_load_boxagg [_] rfl rfl (Nat.le_of_ble_eq_true rfl) rfl ?_)
    | refine rw_t 31 rfl rfl rfl (n_load_arragg [_] rfl rfl rfl (by omega) rfl ?_)
  refine rw_t 32 rfl rfl rfl (do_fieldaddr rfl ?_)
  first
    | refine rw_t 33 rfl rfl rfl (do_load_box rfl rfl rfl ?_)
    | refine rw_t 33 rfl rfl rfl (do_load_arr rfl rfl (by first | omega | (simp only [ls]; omega)) rfl ?_)
    | refine rw_t 33 rfl rfl rfl (n_load_boxagg [_] rfl rfl (Nat.le_of_ble_eq_true rfl) rfl ?_)
    | refine rw_t 33 rfl rfl rfl (n_load_arragg [_] rfl rfl rfl (by omega) rfl ?_)
  refine rw_t 34 rfl rfl rfl (do_len rfl ?_)
  refine rw_t 35 rfl rfl rfl (n_bs (nm := 10) Int (encI .i64) 0 [(L : Int)] rfl rfl rfl rfl rfl (fun _ => rfl) (fun _ _ h => by simp [encI] at h; subst h; rfl) rfl ?_)
  refine rw_t 36 rfl rfl rfl (n_append_own (nm := 11) rfl rfl rfl rfl rfl (by first | omega | (simp only [List.length_map, firstOf_len]; omega)) (by simp) (by omega) (by omega) rfl ?_)
  refine rw_t 37 rfl rfl rfl (do_fieldaddr rfl ?_)
  first
    | refine rw_u rfl rfl (n_store_box rfl rfl rfl (Nat.le_of_ble_eq_true rfl) rfl ?_)
    | refine rw_u rfl rfl (n_store_arr rfl rfl rfl (by omega) rfl (by decide) rfl ?_)
    | refine rw_u rfl rfl (n_store_whole rfl rfl rfl rfl rfl rfl ?_)
  refine rw_nil ?_
  refine w_seq ?_
  refine w_region ?_
  refine rw_t 7 rfl rfl rfl (do_assign rfl ?_)
  refine rw_nil ?_
  refine w_block ?_ -- block 2
  refine w_loopS (ι := Nat × Nat) (fun q => [(1, .ptr 1 0 0), (2, .ptr 2 0 0), (5, .ptr 3 0 0), (6, .val (.int .i64 ((v : Nat)))), (7, .val (.int .i64 ((q.1 : Nat))))]) (fun q => [SO.arcs false n.arcs, .box [.val (.int .i64 n.N), .val (.int .i64 n.S), .val (.int .i64 n.T), .slc 0 0 n.arcs.length none], .box [.val (.int .i64 0), .val (.int .i64 0), .val (.int .i64 0), .val (.slice none 0 0), .val (.slice none 0 0), .val (.slice none 0 0), .val (.slice none 0 0), .val (.slice none 0 0), .val (.slice none 0 0)], .box [.val (.int .i64 n.N), .val (.int .i64 n.S), .val (.int .i64 n.T), .slc 4 0 (v + 1) none, .slc 5 0 (q.2) none, .slc 6 0 (0) none, .slc 7 0 (q.2) none, .slc 8 0 (q.2) none, .slc 9 0 (q.2) none], SO.ints true .i64 (firstOf n (v + 1)), SO.ints true .i64 ((rowsOf n v ++ rowsAt n v q.1).map Row.hd), SO.ints true .i64 ([]), SO.ints true .i64 ((rowsOf n v ++ rowsAt n v q.1).map Row.cap), SO.ints true .i64 ((rowsOf n v ++ rowsAt n v q.1).map Row.arc), SO.bools true ((rowsOf n v ++ rowsAt n v q.1).map Row.back)]) (fun q => n.arcs.length - q.1) (fun q => q.1 ≤ n.arcs.length ∧ q.2 = (rowsOf n v ++ rowsAt n v q.1).length) (0, L) [0, 1, 2, 3, 11, 5, 6, 7, 8, 9] (⟨by simp, by dsimp only; rw [hL]; simp [rowsAt]⟩) ⟨shR rfl, shR rfl, shR rfl, shR rfl, .inr ⟨_, rfl, .inl (congrArg (SO.ints true .i64) ((firstOf_next n v).trans (by rw [← hL]; exact list_app (L : Int) (firstOf_len n v).symm)))⟩, .inr ⟨_, rfl, .inl (congrArg (fun R => SO.ints true .i64 (List.map Row.hd R)) (List.append_nil (rowsOf n v)))⟩, shR rfl, .inr ⟨_, rfl, .inl (congrArg (fun R => SO.ints true .i64 (List.map Row.cap R)) (List.append_nil (rowsOf n v)))⟩, .inr ⟨_, rfl, .inl (congrArg (fun R => SO.ints true .i64 (List.map Row.arc R)) (List.append_nil (rowsOf n v)))⟩, .inr ⟨_, rfl, .inl (congrArg (fun R => SO.bools true (List.map Row.back R)) (List.append_nil (rowsOf n v)))⟩, trivial⟩ rfl (pre_ok rfl) hρ ⟨⟨_, rfl, rfl⟩, ⟨_, rfl, rfl⟩, ⟨_, rfl, rfl⟩, ⟨_, rfl, rfl⟩, ⟨_, rfl, rfl⟩, trivial⟩ ?_
  rintro ⟨k, L⟩ ⟨hk, hL⟩
  dsimp only at hk hL ⊢
  have hb3 := rowsAt_len n v k
  have hb4 : L ≤ 64 * (2 * 64) + 2 * 64 := by rw [hL, List.length_append]; omega
  refine w_seq ?_
  refine w_seq ?_
  refine w_region ?_
  refine rw_t 38 rfl rfl rfl (do_move rfl ?_)
  refine rw_t 39 rfl rfl rfl (do_fieldaddr rfl ?_)
  first
    | refine rw_t 40 rfl rfl rfl (do_load_box rfl rfl rfl ?_)
    | refine rw_t 40 rfl rfl rfl (do_load_arr rfl rfl (by first | omega | (simp only [ls]; omega)) rfl ?_)
    | refine rw_t 40 rfl rfl rfl (n_load_boxagg [_] rfl rfl (Nat.le_of_ble_eq_true rfl) rfl ?_)
    | refine rw_t 40 rfl rfl rfl (n_load_arragg [_] rfl rfl rfl (by omega) rfl ?_)
  refine rw_t 41 rfl rfl rfl (do_len rfl ?_)
  refine rw_t 42 rfl rfl rfl (do_bin rfl rfl rfl ?_)
  refine rw_nil ?_
  refine w_cond rfl (fun hc6 => ?_) (fun hc6 => ?_)
  all_goals simp only [bs] at hc6
  rotate_left
  · refine w_exit ?_
    refine w_region ?_
    refine rw_t 28 rfl rfl rfl (do_move rfl ?_)
    refine rw_t 29 rfl rfl rfl (do_add rfl rfl (by omega) ?_)
    refine rw_t 6 rfl rfl rfl (do_assign rfl ?_)
    refine rw_nil ?_
    have hk' : k = n.arcs.length := by omega
    subst hk'
    refine ⟨(v + 1, L), [0, 1, 2, 3, 4, 5, 6, 7, 8, 9], by dsimp only; omega, ⟨by dsimp only; omega, by dsimp only; rw [rowsOf_next]; exact hL⟩, ⟨shR rfl, shR rfl, shR rfl, shR rfl, shR rfl, .inr ⟨_, rfl, .inl (congrArg (fun R => SO.ints true .i64 (List.map Row.hd R)) (rowsOf_next n v))⟩, shR rfl, .inr ⟨_, rfl, .inl (congrArg (fun R => SO.ints true .i64 (List.map Row.cap R)) (rowsOf_next n v))⟩, .inr ⟨_, rfl, .inl (congrArg (fun R => SO.ints true .i64 (List.map Row.arc R)) (rowsOf_next n v))⟩, .inr ⟨_, rfl, .inl (congrArg (fun R => SO.bools true (List.map Row.back R)) (rowsOf_next n v))⟩, trivial⟩, rfl, pre_ok rfl, ⟨⟨_, rfl, rfl⟩, ⟨_, rfl, rfl⟩, ⟨_, rfl, rfl⟩, ⟨_, rfl, rfl⟩, trivial⟩⟩
  refine w_skip ?_
  refine w_seq ?_
  refine w_block ?_ -- block 3
  refine w_seq ?_
  refine w_region ?_
  refine rw_t 45 rfl rfl rfl (do_fieldaddr rfl ?_)
  first
    | refine rw_t 46 rfl rfl rfl (do_load_box rfl rfl rfl ?_)
    | refine rw_t 46 rfl rfl rfl (do_load_arr rfl rfl (by first | omega | (simp only [ls]; omega)) rfl ?_)
    | refine rw_t 46 rfl rfl rfl (n_load_boxagg [_] rfl rfl (Nat.le_of_ble_eq_true rfl) rfl ?_)
    | refine rw_t 46 rfl rfl rfl (n_load_arragg [_] rfl rfl rfl (by omega) rfl ?_)
  refine rw_t 47 rfl rfl rfl (do_move rfl ?_)
  first
    | refine rw_t 48 rfl rfl rfl (do_ixn rfl rfl rfl (by omega) ?_)
    | refine rw_t 48 rfl rfl rfl (do_ix0 rfl rfl rfl (by omega) ?_)
    | refine rw_t 48 rfl rfl rfl (do_ix rfl rfl rfl (by omega) ?_)
  first
    | refine rw_t 49 rfl rfl rfl (do_load_box rfl rfl rfl ?_)
    | refine rw_t 49 rfl rfl rfl (do_load_arr rfl rfl (by first | omega | (simp only [ls]; omega)) rfl ?_)
    | refine rw_t 49 rfl rfl rfl (n_load_boxagg [_, _, _] rfl rfl (Nat.le_of_ble_eq_true rfl) rfl ?_)
    | refine rw_t 49 rfl rfl rfl (n_load_arragg [_, _, _] rfl rfl rfl (by omega) rfl ?_)
  refine rw_t 8 rfl rfl rfl (n_alloc (n := 10) rfl ?_)
  first
    | refine rw_u rfl rfl (n_store_box rfl rfl rfl (Nat.le_of_ble_eq_true rfl) rfl ?_)
    | refine rw_u rfl rfl (n_store_arr rfl rfl rfl (by omega) rfl (by decide) rfl ?_)
    | refine rw_u rfl rfl (n_store_whole rfl rfl rfl rfl rfl rfl ?_)
  refine rw_nil ?_
  refine w_seq ?_
  refine w_seq ?_
  refine w_region ?_
  refine rw_t 50 rfl rfl rfl (do_fieldaddr rfl ?_)
  first
    | refine rw_t 51 rfl rfl rfl (do_load_box rfl rfl rfl ?_)
    | refine rw_t 51 rfl rfl rfl (do_load_arr rfl rfl (by first | omega | (simp only [ls]; omega)) rfl ?_)
    | refine rw_t 51 rfl rfl rfl (n_load_boxagg [_] rfl rfl (Nat.le_of_ble_eq_true rfl) rfl ?_)
    | refine rw_t 51 rfl rfl rfl (n_load_arragg [_] rfl rfl rfl (by omega) rfl ?_)
  refine rw_t 52 rfl rfl rfl (do_fieldaddr rfl ?_)
  first
    | refine rw_t 53 rfl rfl rfl (do_load_box rfl rfl rfl ?_)
    | refine rw_t 53 rfl rfl rfl (do_load_arr rfl rfl (by first | omega | (simp only [ls]; omega)) rfl ?_)
    | refine rw_t 53 rfl rfl rfl (n_load_boxagg [_] rfl rfl (Nat.le_of_ble_eq_true rfl) rfl ?_)
    | refine rw_t 53 rfl rfl rfl (n_load_arragg [_] rfl rfl rfl (by omega) rfl ?_)
  refine rw_t 54 rfl rfl rfl (do_bin rfl rfl rfl ?_)
  refine rw_nil ?_
  refine w_cond rfl (fun hc7 => ?_) (fun hc7 => ?_)
  all_goals simp only [bs] at hc7
  · refine w_exit ?_
    refine w_region ?_
    refine rw_t 43 rfl rfl rfl (do_move rfl ?_)
    refine rw_t 44 rfl rfl rfl (do_add rfl rfl (by omega) ?_)
    refine rw_t 7 rfl rfl rfl (do_assign rfl ?_)
    refine rw_nil ?_
    have PF : rowsOf n v ++ rowsAt n v (k + 1) = rowsOf n v ++ rowsAt n v k := by rw [rowsAt_next]; simp only [rowOf, if_pos hc7, List.append_nil]
    refine ⟨(k + 1, L), [0, 1, 2, 3, 4, 5, 6, 7, 8, 9], by dsimp only; omega, ⟨by dsimp only; omega, by dsimp only; rw [PF]; exact hL⟩, ⟨shR rfl, shR rfl, shR rfl, shR rfl, shR rfl, .inr ⟨_, rfl, .inl (congrArg (fun R => SO.ints true .i64 (List.map Row.hd R)) (PF))⟩, shR rfl, .inr ⟨_, rfl, .inl (congrArg (fun R => SO.ints true .i64 (List.map Row.cap R)) (PF))⟩, .inr ⟨_, rfl, .inl (congrArg (fun R => SO.ints true .i64 (List.map Row.arc R)) (PF))⟩, .inr ⟨_, rfl, .inl (congrArg (fun R => SO.bools true (List.map Row.back R)) (PF))⟩, trivial⟩, rfl, pre_ok rfl, ⟨⟨_, rfl, rfl⟩, ⟨_, rfl, rfl⟩, ⟨_, rfl, rfl⟩, ⟨_, rfl, rfl⟩, ⟨_, rfl, rfl⟩, trivial⟩⟩
  refine w_skip ?_
  refine w_midS (ι := List Row × Nat) (fun q => [(1, .ptr 1 0 0), (2, .ptr 2 0 0), (5, .ptr 3 0 0), (6, .val (.int .i64 ((v : Nat)))), (7, .val (.int .i64 ((k : Nat)))), (8, .ptr 10 0 0)]) (fun q => [SO.arcs false n.arcs, .box [.val (.int .i64 n.N), .val (.int .i64 n.S), .val (.int .i64 n.T), .slc 0 0 n.arcs.length none], .box [.val (.int .i64 0), .val (.int .i64 0), .val (.int .i64 0), .val (.slice none 0 0), .val (.slice none 0 0), .val (.slice none 0 0), .val (.slice none 0 0), .val (.slice none 0 0), .val (.slice none 0 0)], .box [.val (.int .i64 n.N), .val (.int .i64 n.S), .val (.int .i64 n.T), .slc 4 0 (v + 1) none, .slc 5 0 (q.2) none, .slc 6 0 (0) none, .slc 7 0 (q.2) none, .slc 8 0 (q.2) none, .slc 9 0 (q.2) none], SO.ints true .i64 (firstOf n (v + 1)), SO.ints true .i64 ((q.1).map Row.hd), SO.ints true .i64 ([]), SO.ints true .i64 ((q.1).map Row.cap), SO.ints true .i64 ((q.1).map Row.arc), SO.bools true ((q.1).map Row.back), .box ((encArc (n.arcs.getD k Arc.none)).map .val)]) (fun q => q.1 = rowsOf n v ++ rowsAt n v k ++ (if (n.arcs.getD k Arc.none).frm = v then [⟨(n.arcs.getD k Arc.none).to, (n.arcs.getD k Arc.none).cap, k, false⟩] else []) ∧ q.2 = q.1.length) hρ ?_ ?_
  · refine w_seq ?_
    refine w_region ?_
    refine rw_t 55 rfl rfl rfl (do_fieldaddr rfl ?_)
    first
      | refine rw_t 56 rfl rfl rfl (do_load_box rfl rfl rfl ?_)
      | refine rw_t 56 rfl rfl rfl (do_load_arr rfl rfl (by first | omega | (simp only [ls]; omega)) rfl ?_)
      | refine rw_t 56 rfl rfl rfl (n_load_boxagg [_] rfl rfl (Nat.le_of_ble_eq_true rfl) rfl ?_)
      | refine rw_t 56 rfl rfl rfl (n_load_arragg [_] rfl rfl rfl (by omega) rfl ?_)
    refine rw_t 57 rfl rfl rfl (do_move rfl ?_)
    refine rw_t 58 rfl rfl rfl (do_bin rfl rfl rfl ?_)
    refine rw_nil ?_
    refine w_cond rfl (fun hc8 => ?_) (fun hc8 => ?_)
    all_goals simp only [bs] at hc8
    · refine w_seq ?_
      refine w_region ?_
      refine rw_t 59 rfl rfl rfl (do_fieldaddr rfl ?_)
      first
        | refine rw_t 60 rfl rfl rfl (do_load_box rfl rfl rfl ?_)
        | refine rw_t 60 rfl rfl rfl (do_load_arr rfl rfl (by first | omega | (simp only [ls]; omega)) rfl ?_)
        | refine rw_t 60 rfl rfl rfl (n_load_boxagg [_] rfl rfl (Nat.le_of_ble_eq_true rfl) rfl ?_)
        | refine rw_t 60 rfl rfl rfl (n_load_arragg [_] rfl rfl rfl (by omega) rfl ?_)
      refine rw_t 61 rfl rfl rfl (do_fieldaddr rfl ?_)
      first
        | refine rw_t 62 rfl rfl rfl (do_load_box rfl rfl rfl ?_)
        | refine rw_t 62 rfl rfl rfl (do_load_arr rfl rfl (by first | omega | (simp only [ls]; omega)) rfl ?_)
        | refine rw_t 62 rfl rfl rfl (n_load_boxagg [_] rfl rfl (Nat.le_of_ble_eq_true rfl) rfl ?_)
        | refine rw_t 62 rfl rfl rfl (n_load_arragg [_] rfl rfl rfl (by omega) rfl ?_)
      refine rw_t 63 rfl rfl rfl (n_bs (nm := 11) Int (encI .i64) 0 [(n.arcs.getD k Arc.none).to] rfl rfl rfl rfl rfl (fun _ => rfl) (fun _ _ h => by simp [encI] at h; subst h; rfl) rfl ?_)
      refine rw_t 64 rfl rfl rfl (n_append_own (nm := 12) rfl rfl rfl rfl rfl (by first | omega | (simp only [List.length_map, firstOf_len]; omega)) (by simp) (by omega) (by omega) rfl ?_)
      refine rw_t 65 rfl rfl rfl (do_fieldaddr rfl ?_)
      first
        | refine rw_u rfl rfl (n_store_box rfl rfl rfl (Nat.le_of_ble_eq_true rfl) rfl ?_)
        | refine rw_u rfl rfl (n_store_arr rfl rfl rfl (by omega) rfl (by decide) rfl ?_)
        | refine rw_u rfl rfl (n_store_whole rfl rfl rfl rfl rfl rfl ?_)
      refine rw_nil ?_
      refine w_seq ?_
      refine w_region ?_
      refine rw_t 66 rfl rfl rfl (do_fieldaddr rfl ?_)
      first
        | refine rw_t 67 rfl rfl rfl (do_load_box rfl rfl rfl ?_)
        | refine rw_t 67 rfl rfl rfl (do_load_arr rfl rfl (by first | omega | (simp only [ls]; omega)) rfl ?_)
        | refine rw_t 67 rfl rfl rfl (n_load_boxagg [_] rfl rfl (Nat.le_of_ble_eq_true rfl) rfl ?_)
        | refine rw_t 67 rfl rfl rfl (n_load_arragg [_] rfl rfl rfl (by omega) rfl ?_)
      refine rw_t 68 rfl rfl rfl (do_fieldaddr rfl ?_)
      first
        | refine rw_t 69 rfl rfl rfl (do_load_box rfl rfl rfl ?_)
        | refine rw_t 69 rfl rfl rfl (do_load_arr rfl rfl (by first | omega | (simp only [ls]; omega)) rfl ?_)
        | refine rw_t 69 rfl rfl rfl (n_load_boxagg [_] rfl rfl (Nat.le_of_ble_eq_true rfl) rfl ?_)
        | refine rw_t 69 rfl rfl rfl (n_load_arragg [_] rfl rfl rfl (by omega) rfl ?_)
      refine rw_t 70 rfl rfl rfl (n_bs (nm := 13) Int (encI .i64) 0 [(n.arcs.getD k Arc.none).cap] rfl rfl rfl rfl rfl (fun _ => rfl) (fun _ _ h => by simp [encI] at h; subst h; rfl) rfl ?_)
      refine rw_t 71 rfl rfl rfl (n_append_own (nm := 14) rfl rfl rfl rfl rfl (by first | omega | (simp only [List.length_map, firstOf_len]; omega)) (by simp) (by omega) (by omega) rfl ?_)
      refine rw_t 72 rfl rfl rfl (do_fieldaddr rfl ?_)
      first
        | refine rw_u rfl rfl (n_store_box rfl rfl rfl (Nat.le_of_ble_eq_true rfl) rfl ?_)
        | refine rw_u rfl rfl (n_store_arr rfl rfl rfl (by omega) rfl (by decide) rfl ?_)
        | refine rw_u rfl rfl (n_store_whole rfl rfl rfl rfl rfl rfl ?_)
      refine rw_nil ?_
      refine w_seq ?_
      refine w_region ?_
      refine rw_t 73 rfl rfl rfl (do_fieldaddr rfl ?_)
      first
        | refine rw_t 74 rfl rfl rfl (do_load_box rfl rfl rfl ?_)
        | refine rw_t 74 rfl rfl rfl (do_load_arr rfl rfl (by first | omega | (simp only [ls]; omega)) rfl ?_)
        | refine rw_t 74 rfl rfl rfl (n_load_boxagg [_] rfl rfl (Nat.le_of_ble_eq_true rfl) rfl ?_)
        | refine rw_t 74 rfl rfl rfl (n_load_arragg [_] rfl rfl rfl (by omega) rfl ?_)
      refine rw_t 75 rfl rfl rfl (do_move rfl ?_)
      refine rw_t 76 rfl rfl rfl (n_bs (nm := 15) Int (encI .i64) 0 [(k : Int)] rfl rfl rfl rfl rfl (fun _ => rfl) (fun _ _ h => by simp [encI] at h; subst h; rfl) rfl ?_)
      refine rw_t 77 rfl rfl rfl (n_append_own (nm := 16) rfl rfl rfl rfl rfl (by first | omega | (simp only [List.length_map, firstOf_len]; omega)) (by simp) (by omega) (by omega) rfl ?_)
      refine rw_t 78 rfl rfl rfl (do_fieldaddr rfl ?_)
      first
        | refine rw_u rfl rfl (n_store_box rfl rfl rfl (Nat.le_of_ble_eq_true rfl) rfl ?_)
        | refine rw_u rfl rfl (n_store_arr rfl rfl rfl (by omega) rfl (by decide) rfl ?_)
        | refine rw_u rfl rfl (n_store_whole rfl rfl rfl rfl rfl rfl ?_)
      refine rw_nil ?_
      refine w_region ?_
      refine rw_t 79 rfl rfl rfl (do_fieldaddr rfl ?_)
      first
        | refine rw_t 80 rfl rfl rfl (do_load_box rfl rfl rfl ?_)
        | refine rw_t 80 rfl rfl rfl (do_load_arr rfl rfl (by first | omega | (simp only [ls]; omega)) rfl ?_)
        | refine rw_t 80 rfl rfl rfl (n_load_boxagg [_] rfl rfl (Nat.le_of_ble_eq_true rfl) rfl ?_)
        | refine rw_t 80 rfl rfl rfl (n_load_arragg [_] rfl rfl rfl (by omega) rfl ?_)
      refine rw_t 81 rfl rfl rfl (n_bs (nm := 17) Bool encB false [false] rfl rfl rfl rfl rfl (fun _ => rfl) (fun _ _ h => by simp [encB] at h; subst h; rfl) rfl ?_)
      refine rw_t 82 rfl rfl rfl (n_append_own (nm := 18) rfl rfl rfl rfl rfl (by first | omega | (simp only [List.length_map, firstOf_len]; omega)) (by simp) (by omega) (by omega) rfl ?_)
      refine rw_t 83 rfl rfl rfl (do_fieldaddr rfl ?_)
      first
        | refine rw_u rfl rfl (n_store_box rfl rfl rfl (Nat.le_of_ble_eq_true rfl) rfl ?_)
        | refine rw_u rfl rfl (n_store_arr rfl rfl rfl (by omega) rfl (by decide) rfl ?_)
        | refine rw_u rfl rfl (n_store_whole rfl rfl rfl rfl rfl rfl ?_)
      refine rw_nil ?_
      exact ⟨(rowsOf n v ++ rowsAt n v k ++ [⟨(n.arcs.getD k Arc.none).to, (n.arcs.getD k Arc.none).cap, k, false⟩], L + 1), [0, 1, 2, 3, 4, 12, 6, 14, 16, 18, 10], ⟨by dsimp only; rw [if_pos hc8], by dsimp only; rw [hL]; exact (len_snoc _ _).symm⟩, ⟨shR rfl, shR rfl, shR rfl, shR rfl, shR rfl, .inr ⟨_, rfl, .inl (congrArg (SO.ints true .i64) ((congrArg (List.map Row.hd) (rfl)).trans (map_app Row.hd ⟨(n.arcs.getD k Arc.none).to, (n.arcs.getD k Arc.none).cap, k, false⟩ hL)))⟩, shR rfl, .inr ⟨_, rfl, .inl (congrArg (SO.ints true .i64) ((congrArg (List.map Row.cap) (rfl)).trans (map_app Row.cap ⟨(n.arcs.getD k Arc.none).to, (n.arcs.getD k Arc.none).cap, k, false⟩ hL)))⟩, .inr ⟨_, rfl, .inl (congrArg (SO.ints true .i64) ((congrArg (List.map Row.arc) (rfl)).trans (map_app Row.arc ⟨(n.arcs.getD k Arc.none).to, (n.arcs.getD k Arc.none).cap, k, false⟩ hL)))⟩, .inr ⟨_, rfl, .inl (congrArg (SO.bools true) ((congrArg (List.map Row.back) (rfl)).trans (map_app Row.back ⟨(n.arcs.getD k Arc.none).to, (n.arcs.getD k Arc.none).cap, k, false⟩ hL)))⟩, shR rfl, trivial⟩, rfl, pre_ok rfl, ⟨⟨_, rfl, rfl⟩, ⟨_, rfl, rfl⟩, ⟨_, rfl, rfl⟩, ⟨_, rfl, rfl⟩, ⟨_, rfl, rfl⟩, ⟨_, rfl, rfl⟩, trivial⟩⟩
    · refine w_skip ?_
      exact ⟨(rowsOf n v ++ rowsAt n v k, L), [0, 1, 2, 3, 4, 5, 6, 7, 8, 9, 10], ⟨by dsimp only; rw [if_neg hc8, List.append_nil], hL⟩, ⟨shR rfl, shR rfl, shR rfl, shR rfl, shR rfl, shR rfl, shR rfl, shR rfl, shR rfl, shR rfl, shR rfl, trivial⟩, rfl, pre_ok rfl, ⟨⟨_, rfl, rfl⟩, ⟨_, rfl, rfl⟩, ⟨_, rfl, rfl⟩, ⟨_, rfl, rfl⟩, ⟨_, rfl, rfl⟩, ⟨_, rfl, rfl⟩, trivial⟩⟩
  rintro ⟨R, L2⟩ ⟨hR, hL2⟩
  dsimp only at hR hL2 ⊢
  have hb5 : L2 ≤ 64 * (2 * 64) + 2 * 64 + 1 := by rw [hL2, hR, List.length_append, ← hL]; split <;> simp <;> omega
  refine w_seq ?_
  refine w_region ?_
  refine rw_t 84 rfl rfl rfl (do_fieldaddr rfl ?_)
  first
    | refine rw_t 85 rfl rfl rfl (do_load_box rfl rfl rfl ?_)
    | refine rw_t 85 rfl rfl rfl (do_load_arr rfl rfl (by first | omega | (simp only [ls]; omega)) rfl ?_)
    | refine rw_t 85 rfl rfl rfl (n_load_boxagg [_] rfl rfl (Nat.le_of_ble_eq_true rfl) rfl ?_)
    | refine rw_t 85 rfl rfl rfl (n_load_arragg [_] rfl rfl rfl (by omega) rfl ?_)
  refine rw_t 86 rfl rfl rfl (do_move rfl ?_)
  refine rw_t 87 rfl rfl rfl (do_bin rfl rfl rfl ?_)
  refine rw_nil ?_
  refine w_cond rfl (fun hc9 => ?_) (fun hc9 => ?_)
  all_goals simp only [bs] at hc9
  · refine w_seq ?_
    refine w_region ?_
    refine rw_t 88 rfl rfl rfl (do_fieldaddr rfl ?_)
    first
      | refine rw_t 89 rfl rfl rfl (do_load_box rfl rfl rfl ?_)
      | refine rw_t 89 rfl rfl rfl (do_load_arr rfl rfl (by first | omega | (simp only [ls]; omega)) rfl ?_)
      | refine rw_t 89 rfl rfl rfl (n_load_boxagg [_] rfl rfl (Nat.le_of_ble_eq_true rfl) rfl ?_)
      | refine rw_t 89 rfl rfl rfl (n_load_arragg [_] rfl rfl rfl (by omega) rfl ?_)
    refine rw_t 90 rfl rfl rfl (do_fieldaddr rfl ?_)
    first
      | refine rw_t 91 rfl rfl rfl (do_load_box rfl rfl rfl ?_)
      | refine rw_t 91 rfl rfl rfl (do_load_arr rfl rfl (by first | omega | (simp only [ls]; omega)) rfl ?_)
      | refine rw_t 91 rfl rfl rfl (n_load_boxagg [_] rfl rfl (Nat.le_of_ble_eq_true rfl) rfl ?_)
      | refine rw_t 91 rfl rfl rfl (n_load_arragg [_] rfl rfl rfl (by omega) rfl ?_)
    refine rw_t 92 rfl rfl rfl (n_bs (nm := 11) Int (encI .i64) 0 [(n.arcs.getD k Arc.none).frm] rfl rfl rfl rfl rfl (fun _ => rfl) (fun _ _ h => by simp [encI] at h; subst h; rfl) rfl ?_)
    refine rw_t 93 rfl rfl rfl (n_append_own (nm := 12) rfl rfl rfl rfl rfl (by first | omega | (simp only [List.length_map, firstOf_len]; omega)) (by simp) (by omega) (by omega) rfl ?_)
    refine rw_t 94 rfl rfl rfl (do_fieldaddr rfl ?_)
    first
      | refine rw_u rfl rfl (n_store_box rfl rfl rfl (Nat.le_of_ble_eq_true rfl) rfl ?_)
      | refine rw_u rfl rfl (n_store_arr rfl rfl rfl (by omega) rfl (by decide) rfl ?_)
      | refine rw_u rfl rfl (n_store_whole rfl rfl rfl rfl rfl rfl ?_)
    refine rw_nil ?_
    refine w_seq ?_
    refine w_region ?_
    refine rw_t 95 rfl rfl rfl (do_fieldaddr rfl ?_)
    first
      | refine rw_t 96 rfl rfl rfl (do_load_box rfl rfl rfl ?_)
      | refine rw_t 96 rfl rfl rfl (do_load_arr rfl rfl (by first | omega | (simp only [ls]; omega)) rfl ?_)
      | refine rw_t 96 rfl rfl rfl (n_load_boxagg [_] rfl rfl (Nat.le_of_ble_eq_true rfl) rfl ?_)
      | refine rw_t 96 rfl rfl rfl (n_load_arragg [_] rfl rfl rfl (by omega) rfl ?_)
    refine rw_t 97 rfl rfl rfl (n_bs (nm := 13) Int (encI .i64) 0 [0] rfl rfl rfl rfl rfl (fun _ => rfl) (fun _ _ h => by simp [encI] at h; subst h; rfl) rfl ?_)
    refine rw_t 98 rfl rfl rfl (n_append_own (nm := 14) rfl rfl rfl rfl rfl (by first | omega | (simp only [List.length_map, firstOf_len]; omega)) (by simp) (by omega) (by omega) rfl ?_)
    refine rw_t 99 rfl rfl rfl (do_fieldaddr rfl ?_)
    first
      | refine rw_u rfl rfl (n_store_box rfl rfl rfl (Nat.le_of_ble_eq_true rfl) rfl ?_)
      | refine rw_u rfl rfl (n_store_arr rfl rfl rfl (by omega) rfl (by decide) rfl ?_)
      | refine rw_u rfl rfl (n_store_whole rfl rfl rfl rfl rfl rfl ?_)
    refine rw_nil ?_
    refine w_seq ?_
    refine w_region ?_
    refine rw_t 100 rfl rfl rfl (do_fieldaddr rfl ?_)
    first
      | refine rw_t 101 rfl rfl rfl (do_load_box rfl rfl rfl ?_)
      | refine rw_t 101 rfl rfl rfl (do_load_arr rfl rfl (by first | omega | (simp only [ls]; omega)) rfl ?_)
      | refine rw_t 101 rfl rfl rfl (n_load_boxagg [_] rfl rfl (Nat.le_of_ble_eq_true rfl) rfl ?_)
      | refine rw_t 101 rfl rfl rfl (n_load_arragg [_] rfl rfl rfl (by omega) rfl ?_)
    refine rw_t 102 rfl rfl rfl (do_move rfl ?_)
    refine rw_t 103 rfl rfl rfl (n_bs (nm := 15) Int (encI .i64) 0 [(k : Int)] rfl rfl rfl rfl rfl (fun _ => rfl) (fun _ _ h => by simp [encI] at h; subst h; rfl) rfl ?_)
    refine rw_t 104 rfl rfl rfl (n_append_own (nm := 16) rfl rfl rfl rfl rfl (by first | omega | (simp only [List.length_map, firstOf_len]; omega)) (by simp) (by omega) (by omega) rfl ?_)
    refine rw_t 105 rfl rfl rfl (do_fieldaddr rfl ?_)
    first
      | refine rw_u rfl rfl (n_store_box rfl rfl rfl (Nat.le_of_ble_eq_true rfl) rfl ?_)
      | refine rw_u rfl rfl (n_store_arr rfl rfl rfl (by omega) rfl (by decide) rfl ?_)
      | refine rw_u rfl rfl (n_store_whole rfl rfl rfl rfl rfl rfl ?_)
    refine rw_nil ?_
    refine w_region ?_
    refine rw_t 106 rfl rfl rfl (do_fieldaddr rfl ?_)
    first
      | refine rw_t 107 rfl rfl rfl (do_load_box rfl rfl rfl ?_)
      | refine rw_t 107 rfl rfl rfl (do_load_arr rfl rfl (by first | omega | (simp only [ls]; omega)) rfl ?_)
      | refine rw_t 107 rfl rfl rfl (n_load_boxagg [_] rfl rfl (Nat.le_of_ble_eq_true rfl) rfl ?_)
      | refine rw_t 107 rfl rfl rfl (n_load_arragg [_] rfl rfl rfl (by omega) rfl ?_)
    refine rw_t 108 rfl rfl rfl (n_bs (nm := 17) Bool encB false [true] rfl rfl rfl rfl rfl (fun _ => rfl) (fun _ _ h => by simp [encB] at h; subst h; rfl) rfl ?_)
    refine rw_t 109 rfl rfl rfl (n_append_own (nm := 18) rfl rfl rfl rfl rfl (by first | omega | (simp only [List.length_map, firstOf_len]; omega)) (by simp) (by omega) (by omega) rfl ?_)
    refine rw_t 110 rfl rfl rfl (do_fieldaddr rfl ?_)
    first
      | refine rw_u rfl rfl (n_store_box rfl rfl rfl (Nat.le_of_ble_eq_true rfl) rfl ?_)
      | refine rw_u rfl rfl (n_store_arr rfl rfl rfl (by omega) rfl (by decide) rfl ?_)
      | refine rw_u rfl rfl (n_store_whole rfl rfl rfl rfl rfl rfl ?_)
    refine rw_nil ?_
    refine w_region ?_
    refine rw_t 43 rfl rfl rfl (do_move rfl ?_)
    refine rw_t 44 rfl rfl rfl (do_add rfl rfl (by omega) ?_)
    refine rw_t 7 rfl rfl rfl (do_assign rfl ?_)
    refine rw_nil ?_
    have PF : rowsOf n v ++ rowsAt n v (k + 1) = R ++ [⟨(n.arcs.getD k Arc.none).frm, 0, k, true⟩] := by rw [rowsAt_next, hR, ← List.append_assoc]; simp only [rowOf, if_neg hc7, if_pos hc9, List.append_assoc]
    refine ⟨(k + 1, L2 + 1), [0, 1, 2, 3, 4, 12, 6, 14, 16, 18], by dsimp only; omega, ⟨by dsimp only; omega, by dsimp only; rw [PF, hL2]; simp⟩, ⟨shR rfl, shR rfl, shR rfl, shR rfl, shR rfl, .inr ⟨_, rfl, .inl (congrArg (SO.ints true .i64) ((congrArg (List.map Row.hd) (PF)).trans (map_app Row.hd ⟨(n.arcs.getD k Arc.none).frm, 0, k, true⟩ hL2)))⟩, shR rfl, .inr ⟨_, rfl, .inl (congrArg (SO.ints true .i64) ((congrArg (List.map Row.cap) (PF)).trans (map_app Row.cap ⟨(n.arcs.getD k Arc.none).frm, 0, k, true⟩ hL2)))⟩, .inr ⟨_, rfl, .inl (congrArg (SO.ints true .i64) ((congrArg (List.map Row.arc) (PF)).trans (map_app Row.arc ⟨(n.arcs.getD k Arc.none).frm, 0, k, true⟩ hL2)))⟩, .inr ⟨_, rfl, .inl (congrArg (SO.bools true) ((congrArg (List.map Row.back) (PF)).trans (map_app Row.back ⟨(n.arcs.getD k Arc.none).frm, 0, k, true⟩ hL2)))⟩, trivial⟩, rfl, pre_ok rfl, ⟨⟨_, rfl, rfl⟩, ⟨_, rfl, rfl⟩, ⟨_, rfl, rfl⟩, ⟨_, rfl, rfl⟩, ⟨_, rfl, rfl⟩, trivial⟩⟩
  · refine w_skip ?_
    refine w_region ?_
    refine rw_t 43 rfl rfl rfl (do_move rfl ?_)
    refine rw_t 44 rfl rfl rfl (do_add rfl rfl (by omega) ?_)
    refine rw_t 7 rfl rfl rfl (do_assign rfl ?_)
    refine rw_nil ?_
    have PF : rowsOf n v ++ rowsAt n v (k + 1) = R := by rw [rowsAt_next, hR, ← List.append_assoc]; simp only [rowOf, if_neg hc7, if_neg hc9, List.append_nil, List.append_assoc]
    refine ⟨(k + 1, L2), [0, 1, 2, 3, 4, 5, 6, 7, 8, 9], by dsimp only; omega, ⟨by dsimp only; omega, by dsimp only; rw [PF]; exact hL2⟩, ⟨shR rfl, shR rfl, shR rfl, shR rfl, shR rfl, .inr ⟨_, rfl, .inl (congrArg (fun R => SO.ints true .i64 (List.map Row.hd R)) (PF))⟩, shR rfl, .inr ⟨_, rfl, .inl (congrArg (fun R => SO.ints true .i64 (List.map Row.cap R)) (PF))⟩, .inr ⟨_, rfl, .inl (congrArg (fun R => SO.ints true .i64 (List.map Row.arc R)) (PF))⟩, .inr ⟨_, rfl, .inl (congrArg (fun R => SO.bools true (List.map Row.back R)) (PF))⟩, trivial⟩, rfl, pre_ok rfl, ⟨⟨_, rfl, rfl⟩, ⟨_, rfl, rfl⟩, ⟨_, rfl, rfl⟩, ⟨_, rfl, rfl⟩, ⟨_, rfl, rfl⟩, trivial⟩⟩
end Go.Proofs

set_option linter.unusedVariables false
namespace Go.Proofs
open Go Go.Sx Go.RowKit
/-- Lengths of a row of residual arcs. -/
structure CsrLen (c : Csr) : Prop where
  n : 2 ≤ c.N ∧ c.N ≤ 4096
  first : c.First.length = c.N.toNat + 1
  head : c.Head.length ≤ 32768
  rev : c.Rev.length = c.Head.length
  cap : c.Cap.length = c.Head.length
  arc : c.Arc.length = c.Head.length
  back : c.Back.length = c.Head.length
def isTail (c : Csr) (a : Int) (v : Nat) : Prop := c.First.getD v 0 ≤ a ∧ a < c.First.getD (v + 1) 0
instance (c : Csr) (a : Int) (v : Nat) : Decidable (isTail c a v) := by unfold isTail; exact inferInstance
def tailOf (c : Csr) (a : Int) : Int := match (List.range c.N.toNat).find? (fun v => decide (isTail c a v)) with
  | some v => (v : Int)
  | none => -1
theorem tail_found {c : Csr} {a : Int} {i : Nat} (hi : i < c.N.toNat) (h : isTail c a i) (hno : ∀ v, v < i → ¬ isTail c a v) : tailOf c a = i := by
  unfold tailOf
  have : (List.range c.N.toNat).find? (fun v => decide (isTail c a v)) = some i := by
    rw [List.find?_range_eq_some]
    refine ⟨by simpa using h, by simpa using hi, fun j hj => by simpa using hno j hj⟩
  rw [this]
end Go.Proofs

set_option linter.unusedVariables false
namespace Go.Proofs
open Go Go.Sx Go.RowKit
def mostOf (c : Csr) (a : Nat) : Int := c.Cap.getD a 0 + c.Cap.getD (c.Rev.getD a 0).toNat 0
def flowAt (c : Csr) (f : List Int) (a : Nat) : Int := f.getD (c.Arc.getD a 0).toNat 0
def resAt (c : Csr) (f : List Int) (a : Nat) : Int := if c.Back.getD a false = true then flowAt c f a else mostOf c a - flowAt c f a
def resOf (c : Csr) (f : List Int) (m : Nat) : List Int := (List.range m).map (resAt c f)
/-- A flow that the row may have. -/
structure ResIn (c : Csr) (f : List Int) : Prop where
  arc : ∀ a, a < c.Head.length → 0 ≤ c.Arc.getD a 0 ∧ c.Arc.getD a 0 < f.length
  rev : ∀ a, a < c.Head.length → 0 ≤ c.Rev.getD a 0 ∧ c.Rev.getD a 0 < c.Head.length
  flow : ∀ a, a < c.Head.length → 0 ≤ flowAt c f a ∧ flowAt c f a ≤ mostOf c a ∧ mostOf c a ≤ 4611686018427387904
theorem resOf_next (c : Csr) (f : List Int) (m : Nat) : resOf c f (m + 1) = resOf c f m ++ [resAt c f m] := by simp [resOf, List.range_succ]
theorem resOf_len (c : Csr) (f : List Int) (m : Nat) : (resOf c f m).length = m := by simp [resOf]
set_option maxHeartbeats 8000000 in
theorem t_rRes (c : Csr) (f : List Int) (h : CsrLen c) (hf : ResIn c f) : Tri Try.prog 29 [c.sv 0, .slc 6 0 f.length none] [SO.ints false .i64 c.First, SO.ints false .i64 c.Head, SO.ints false .i64 c.Rev, SO.ints false .i64 c.Cap, SO.ints false .i64 c.Arc, SO.bools false c.Back, SO.ints false .i64 f] (fun s H => s = .tup [.slc 7 0 c.Head.length none, .val (.int .i64 0)] ∧ H = [SO.ints false .i64 c.First, SO.ints false .i64 c.Head, SO.ints false .i64 c.Rev, SO.ints false .i64 c.Cap, SO.ints false .i64 c.Arc, SO.bools false c.Back, SO.ints false .i64 f, SO.ints true .i64 (resOf c f c.Head.length)]) := by
  refine tri_of_w (fn := Try.f29) Try.func29 rfl (by simp [Try.f29]) ?_
  intro ρ w hρ
  refine w_seq ?_
  have hh := h.head
  have hr := h.rev
  have hcp := h.cap
  have har := h.arc
  have hbk := h.back
  refine w_region ?_
  refine rw_t 2 rfl rfl rfl (n_box_agg (n := 7) rfl  rfl ?_)
  refine rw_t 4 rfl rfl rfl (do_assign rfl ?_)
  refine rw_t 5 rfl rfl rfl (do_assign rfl ?_)
  refine rw_nil ?_
  refine w_seq ?_
  refine w_region ?_
  refine rw_t 6 rfl rfl rfl (do_assign rfl ?_)
  refine rw_nil ?_
  refine w_seq ?_
  refine w_seq ?_
  refine w_region ?_
  refine rw_t 7 rfl rfl rfl (do_assign rfl ?_)
  refine rw_nil ?_
  refine w_block ?_ -- block 0
  refine n_ghost Int 1 (encI .i64) 0 (fun _ => rfl) (fun _ _ h => by simp [encI] at h; subst h; rfl) ?_
  refine w_nilE 6 8 0 rfl ?_
  refine w_loopS (ι := Nat) (fun i => [(2, .ptr 8 0 0), (1, .slc 6 0 f.length none), (6, .slc 7 0 i none), (7, .val (.int .i64 ((i : Nat))))]) (fun i => [SO.ints false .i64 c.First, SO.ints false .i64 c.Head, SO.ints false .i64 c.Rev, SO.ints false .i64 c.Cap, SO.ints false .i64 c.Arc, SO.bools false c.Back, SO.ints false .i64 f, SO.ints true .i64 (resOf c f i), .box [.val (.int .i64 c.N), .val (.int .i64 c.S), .val (.int .i64 c.T), .slc 0 0 c.First.length none, .slc 1 0 c.Head.length none, .slc 2 0 c.Rev.length none, .slc 3 0 c.Cap.length none, .slc 4 0 c.Arc.length none, .slc 5 0 c.Back.length none]]) (fun i => c.Head.length - i) (fun i => i ≤ c.Head.length) (0) [0, 1, 2, 3, 4, 5, 6, 8, 7] (by simp) ⟨shR rfl, shR rfl, shR rfl, shR rfl, shR rfl, shR rfl, shR rfl, shR rfl, shR rfl, trivial⟩ rfl (pre_ok rfl) hρ ⟨⟨_, rfl, rfl⟩, ⟨_, rfl, rfl⟩, ⟨_, rfl, rfl⟩, ⟨_, rfl, rfl⟩, trivial⟩ ?_
  intro i hi
  refine w_seq ?_
  refine w_seq ?_
  refine w_region ?_
  refine rw_t 10 rfl rfl rfl (do_move rfl ?_)
  refine rw_t 11 rfl rfl rfl (do_fieldaddr rfl ?_)
  first
    | refine rw_t 12 rfl rfl rfl (do_load_box rfl rfl rfl ?_)
    | refine rw_t 12 rfl rfl rfl (do_load_arr rfl rfl (by first | omega | (simp only [ls]; omega)) rfl ?_)
    | refine rw_t 12 rfl rfl rfl (n_load_boxagg [_] rfl rfl (Nat.le_of_ble_eq_true rfl) rfl ?_)
    | refine rw_t 12 rfl rfl rfl (n_load_arragg [_] rfl rfl rfl (by omega) rfl ?_)
  refine rw_t 13 rfl rfl rfl (do_len rfl ?_)
  refine rw_t 14 rfl rfl rfl (do_bin rfl rfl rfl ?_)
  refine rw_nil ?_
  refine w_cond rfl (fun hc1 => ?_) (fun hc1 => ?_)
  all_goals try simp only [bs] at hc1
  rotate_left
  · refine w_exit ?_
    refine w_seq ?_
    refine w_region ?_
    refine rw_t 75 rfl rfl rfl (do_move rfl ?_)
    refine rw_t 4 rfl rfl rfl (do_assign rfl ?_)
    refine rw_t 5 rfl rfl rfl (do_assign rfl ?_)
    refine rw_nil ?_
    refine w_ret ?_
    have hi' : i = c.Head.length := by omega
    subst hi'
    exact ret_eq (.inl rfl) (.cons (res_tmp rfl) (.cons (res_tmp rfl) .nil)) [0, 1, 2, 3, 4, 5, 6, 7] (rfl) ⟨shR rfl, shR rfl, shR rfl, shR rfl, shR rfl, shR rfl, shR rfl, shR rfl, trivial⟩ rfl (pre_ok rfl)
  refine w_skip ?_
  refine w_seq ?_
  refine w_block ?_ -- block 1
  refine w_seq ?_
  have ha := hf.arc i (by omega)
  have hv := hf.rev i (by omega)
  have hw := hf.flow i (by omega)
  unfold flowAt mostOf at hw
  refine w_region ?_
  refine rw_t 17 rfl rfl rfl (do_fieldaddr rfl ?_)
  first
    | refine rw_t 18 rfl rfl rfl (do_load_box rfl rfl rfl ?_)
    | refine rw_t 18 rfl rfl rfl (do_load_arr rfl rfl (by first | omega | (simp only [ls]; omega)) rfl ?_)
    | refine rw_t 18 rfl rfl rfl (n_load_boxagg [_] rfl rfl (Nat.le_of_ble_eq_true rfl) rfl ?_)
    | refine rw_t 18 rfl rfl rfl (n_load_arragg [_] rfl rfl rfl (by omega) rfl ?_)
  refine rw_t 19 rfl rfl rfl (do_move rfl ?_)
  first
    | refine rw_t 20 rfl rfl rfl (do_ixn rfl rfl rfl (by omega) ?_)
    | refine rw_t 20 rfl rfl rfl (do_ix0 rfl rfl rfl (by omega) ?_)
    | refine rw_t 20 rfl rfl rfl (do_ix rfl rfl rfl (by omega) ?_)
  first
    | refine rw_t 21 rfl rfl rfl (do_load_box rfl rfl rfl ?_)
    | refine rw_t 21 rfl rfl rfl (do_load_arr rfl rfl (by first | omega | (simp only [ls]; omega)) rfl ?_)
    | refine rw_t 21 rfl rfl rfl (n_load_boxagg [_] rfl rfl (Nat.le_of_ble_eq_true rfl) rfl ?_)
    | refine rw_t 21 rfl rfl rfl (n_load_arragg [_] rfl rfl rfl (by omega) rfl ?_)
  refine rw_t 8 rfl rfl rfl (do_assign rfl ?_)
  refine rw_nil ?_
  refine w_seq ?_
  refine w_seq ?_
  refine w_region ?_
  refine rw_t 22 rfl rfl rfl (do_move rfl ?_)
  refine rw_t 23 rfl rfl rfl (do_move rfl ?_)
  refine rw_t 24 rfl rfl rfl (do_len rfl ?_)
  refine rw_t 25 rfl rfl rfl (do_bin rfl rfl rfl ?_)
  refine rw_nil ?_
  refine w_cond rfl (fun hc2 => ?_) (fun hc2 => ?_)
  · exfalso; first | (cases hc2; done) | (simp only [bs] at hc2; omega)
  refine w_skip ?_
  refine w_seq ?_
  refine w_draw mixed [0, 1, 0, 7, 15, 0, 32, 0, 128, 0, 896, 1920, 4064, 8160] [16383, 32767] (by kernel_rfl) (by kernel_rfl) rfl rfl rfl (hle hρ rfl) ?_
  refine ra_q (j := 0) rfl rfl rfl rfl (do_fieldaddr rfl ⟨rfl, rfl⟩) (by rfl) ?_
  first
    | refine ra_q (j := 1) rfl rfl rfl rfl (do_load_box rfl rfl rfl ⟨rfl, rfl⟩) (by rfl) ?_
    | refine ra_q (j := 1) rfl rfl rfl rfl (do_load_arr rfl rfl (by first | omega | (simp only [ls]; omega)) rfl ⟨rfl, rfl⟩) (by rfl) ?_
    | refine ra_q (j := 1) rfl rfl rfl rfl (n_load_boxagg [_] rfl rfl (Nat.le_of_ble_eq_true rfl) rfl ⟨rfl, rfl⟩) (by rfl) ?_
    | refine ra_q (j := 1) rfl rfl rfl rfl (n_load_arragg [_] rfl rfl rfl (by omega) rfl ⟨rfl, rfl⟩) (by rfl) ?_
  refine ra_q (j := 2) rfl rfl rfl rfl (do_move rfl ⟨rfl, rfl⟩) (by rfl) ?_
  first
    | refine ra_q (j := 3) rfl rfl rfl rfl (do_ixn rfl rfl rfl (by omega) ⟨rfl, rfl⟩) (by rfl) ?_
    | refine ra_q (j := 3) rfl rfl rfl rfl (do_ix0 rfl rfl rfl (by omega) ⟨rfl, rfl⟩) (by rfl) ?_
    | refine ra_q (j := 3) rfl rfl rfl rfl (do_ix rfl rfl rfl (by omega) ⟨rfl, rfl⟩) (by rfl) ?_
  first
    | refine ra_q (j := 4) rfl rfl rfl rfl (do_load_box rfl rfl rfl ⟨rfl, rfl⟩) (by rfl) ?_
    | refine ra_q (j := 4) rfl rfl rfl rfl (do_load_arr rfl rfl (by first | omega | (simp only [ls]; omega)) rfl ⟨rfl, rfl⟩) (by rfl) ?_
    | refine ra_q (j := 4) rfl rfl rfl rfl (n_load_boxagg [_] rfl rfl (Nat.le_of_ble_eq_true rfl) rfl ⟨rfl, rfl⟩) (by rfl) ?_
    | refine ra_q (j := 4) rfl rfl rfl rfl (n_load_arragg [_] rfl rfl rfl (by omega) rfl ⟨rfl, rfl⟩) (by rfl) ?_
  refine ra_q (j := 5) rfl rfl rfl rfl (do_fieldaddr rfl ⟨rfl, rfl⟩) (by rfl) ?_
  first
    | refine ra_q (j := 6) rfl rfl rfl rfl (do_load_box rfl rfl rfl ⟨rfl, rfl⟩) (by rfl) ?_
    | refine ra_q (j := 6) rfl rfl rfl rfl (do_load_arr rfl rfl (by first | omega | (simp only [ls]; omega)) rfl ⟨rfl, rfl⟩) (by rfl) ?_
    | refine ra_q (j := 6) rfl rfl rfl rfl (n_load_boxagg [_] rfl rfl (Nat.le_of_ble_eq_true rfl) rfl ⟨rfl, rfl⟩) (by rfl) ?_
    | refine ra_q (j := 6) rfl rfl rfl rfl (n_load_arragg [_] rfl rfl rfl (by omega) rfl ⟨rfl, rfl⟩) (by rfl) ?_
  refine ra_q (j := 7) rfl rfl rfl rfl (do_fieldaddr rfl ⟨rfl, rfl⟩) (by rfl) ?_
  first
    | refine ra_q (j := 8) rfl rfl rfl rfl (do_load_box rfl rfl rfl ⟨rfl, rfl⟩) (by rfl) ?_
    | refine ra_q (j := 8) rfl rfl rfl rfl (do_load_arr rfl rfl (by first | omega | (simp only [ls]; omega)) rfl ⟨rfl, rfl⟩) (by rfl) ?_
    | refine ra_q (j := 8) rfl rfl rfl rfl (n_load_boxagg [_] rfl rfl (Nat.le_of_ble_eq_true rfl) rfl ⟨rfl, rfl⟩) (by rfl) ?_
    | refine ra_q (j := 8) rfl rfl rfl rfl (n_load_arragg [_] rfl rfl rfl (by omega) rfl ⟨rfl, rfl⟩) (by rfl) ?_
  refine ra_q (j := 9) rfl rfl rfl rfl (do_move rfl ⟨rfl, rfl⟩) (by rfl) ?_
  first
    | refine ra_q (j := 10) rfl rfl rfl rfl (do_ixn rfl rfl rfl (by omega) ⟨rfl, rfl⟩) (by rfl) ?_
    | refine ra_q (j := 10) rfl rfl rfl rfl (do_ix0 rfl rfl rfl (by omega) ⟨rfl, rfl⟩) (by rfl) ?_
    | refine ra_q (j := 10) rfl rfl rfl rfl (do_ix rfl rfl rfl (by omega) ⟨rfl, rfl⟩) (by rfl) ?_
  first
    | refine ra_q (j := 11) rfl rfl rfl rfl (do_load_box rfl rfl rfl ⟨rfl, rfl⟩) (by rfl) ?_
    | refine ra_q (j := 11) rfl rfl rfl rfl (do_load_arr rfl rfl (by first | omega | (simp only [ls]; omega)) rfl ⟨rfl, rfl⟩) (by rfl) ?_
    | refine ra_q (j := 11) rfl rfl rfl rfl (n_load_boxagg [_] rfl rfl (Nat.le_of_ble_eq_true rfl) rfl ⟨rfl, rfl⟩) (by rfl) ?_
    | refine ra_q (j := 11) rfl rfl rfl rfl (n_load_arragg [_] rfl rfl rfl (by omega) rfl ⟨rfl, rfl⟩) (by rfl) ?_
  first
    | refine ra_q (j := 12) rfl rfl rfl rfl (do_ixn rfl rfl rfl (by omega) ⟨rfl, rfl⟩) (by rfl) ?_
    | refine ra_q (j := 12) rfl rfl rfl rfl (do_ix0 rfl rfl rfl (by omega) ⟨rfl, rfl⟩) (by rfl) ?_
    | refine ra_q (j := 12) rfl rfl rfl rfl (do_ix rfl rfl rfl (by omega) ⟨rfl, rfl⟩) (by rfl) ?_
  first
    | refine ra_q (j := 13) rfl rfl rfl rfl (do_load_box rfl rfl rfl ⟨rfl, rfl⟩) (by rfl) ?_
    | refine ra_q (j := 13) rfl rfl rfl rfl (do_load_arr rfl rfl (by first | omega | (simp only [ls]; omega)) rfl ⟨rfl, rfl⟩) (by rfl) ?_
    | refine ra_q (j := 13) rfl rfl rfl rfl (n_load_boxagg [_] rfl rfl (Nat.le_of_ble_eq_true rfl) rfl ⟨rfl, rfl⟩) (by rfl) ?_
    | refine ra_q (j := 13) rfl rfl rfl rfl (n_load_arragg [_] rfl rfl rfl (by omega) rfl ⟨rfl, rfl⟩) (by rfl) ?_
  refine n_done ?_
  refine rw_t 40 rfl rfl rfl (do_add rfl rfl (by omega) ?_)
  refine rw_t 9 rfl rfl rfl (do_assign rfl ?_)
  refine rw_nil ?_
  refine w_seq ?_
  refine w_seqB 53 (False) ?_ ?_
  · -- region 9
    refine w_region ?_
    refine rw_t 41 rfl rfl rfl (do_move rfl ?_)
    refine rw_t 42 rfl rfl rfl (do_move rfl ?_)
    first
      | refine rw_t 43 rfl rfl rfl (do_ixn rfl rfl rfl (by omega) ?_)
      | refine rw_t 43 rfl rfl rfl (do_ix0 rfl rfl rfl (by omega) ?_)
      | refine rw_t 43 rfl rfl rfl (do_ix rfl rfl rfl (by omega) ?_)
    first
      | refine rw_t 44 rfl rfl rfl (do_load_box rfl rfl rfl ?_)
      | refine rw_t 44 rfl rfl rfl (do_load_arr rfl rfl (by first | omega | (simp only [ls]; omega)) rfl ?_)
      | refine rw_t 44 rfl rfl rfl (n_load_boxagg [_] rfl rfl (Nat.le_of_ble_eq_true rfl) rfl ?_)
      | refine rw_t 44 rfl rfl rfl (n_load_arragg [_] rfl rfl rfl (by omega) rfl ?_)
    refine rw_t 45 rfl rfl rfl (do_bin rfl rfl rfl ?_)
    refine rw_t 46 rfl rfl rfl (do_move rfl ?_)
    refine rw_gt 47 5 46 false rfl rfl rfl rfl rfl rfl (by first | rfl | assumption | (simp only [bs]; omega) | (simp [*]; done)) (do_move rfl ?_)
    refine rw_gt 48 5 46 false rfl rfl rfl rfl rfl rfl (by first | rfl | assumption | (simp only [bs]; omega) | (simp [*]; done)) (do_move rfl ?_)
    first
      | refine rw_gt 49 5 46 false rfl rfl rfl rfl rfl rfl (by first | rfl | assumption | (simp only [bs]; omega) | (simp [*]; done)) (do_ixn rfl rfl rfl (by omega) ?_)
      | refine rw_gt 49 5 46 false rfl rfl rfl rfl rfl rfl (by first | rfl | assumption | (simp only [bs]; omega) | (simp [*]; done)) (do_ix0 rfl rfl rfl (by omega) ?_)
      | refine rw_gt 49 5 46 false rfl rfl rfl rfl rfl rfl (by first | rfl | assumption | (simp only [bs]; omega) | (simp [*]; done)) (do_ix rfl rfl rfl (by omega) ?_)
    first
      | refine rw_gt 50 5 46 false rfl rfl rfl rfl rfl rfl (by first | rfl | assumption | (simp only [bs]; omega) | (simp [*]; done)) (do_load_box rfl rfl rfl ?_)
      | refine rw_gt 50 5 46 false rfl rfl rfl rfl rfl rfl (by first | rfl | assumption | (simp only [bs]; omega) | (simp [*]; done)) (do_load_arr rfl rfl (by first | omega | (simp only [ls]; omega)) rfl ?_)
      | refine rw_gt 50 5 46 false rfl rfl rfl rfl rfl rfl (by first | rfl | assumption | (simp only [bs]; omega) | (simp [*]; done)) (n_load_boxagg [_] rfl rfl (Nat.le_of_ble_eq_true rfl) rfl ?_)
      | refine rw_gt 50 5 46 false rfl rfl rfl rfl rfl rfl (by first | rfl | assumption | (simp only [bs]; omega) | (simp [*]; done)) (n_load_arragg [_] rfl rfl rfl (by omega) rfl ?_)
    refine rw_gt 51 5 46 false rfl rfl rfl rfl rfl rfl (by first | rfl | assumption | (simp only [bs]; omega) | (simp [*]; done)) (do_move rfl ?_)
    refine rw_gt 52 5 46 false rfl rfl rfl rfl rfl rfl (by first | rfl | assumption | (simp only [bs]; omega) | (simp [*]; done)) (do_bin rfl rfl rfl ?_)
    refine rw_t 53 rfl rfl rfl (do_pick_f rfl (by first | rfl | assumption | (simp only [bs]; omega) | (simp [*]; done)) rfl ?_)
    refine rw_nil ?_
    refine ⟨rfl, ⟨_, rfl, by first | (simp only [bs]; omega) | (simp; done) | (simp; omega) | (constructor <;> intro h <;> simp_all <;> omega)⟩, ?_⟩
    repeat (refine ⟨⟨_, rfl, rfl⟩, ?_⟩)
    exact trivial
  intro b1 hb1
  refine w_condP hb1 rfl (fun hc3 => ?_) (fun hc3 => ?_)
  · exact (hc3).elim
  refine w_skip ?_
  refine w_seq ?_
  refine w_region ?_
  refine rw_t 54 rfl rfl rfl (do_fieldaddr rfl ?_)
  first
    | refine rw_t 55 rfl rfl rfl (do_load_box rfl rfl rfl ?_)
    | refine rw_t 55 rfl rfl rfl (do_load_arr rfl rfl (by first | omega | (simp only [ls]; omega)) rfl ?_)
    | refine rw_t 55 rfl rfl rfl (n_load_boxagg [_] rfl rfl (Nat.le_of_ble_eq_true rfl) rfl ?_)
    | refine rw_t 55 rfl rfl rfl (n_load_arragg [_] rfl rfl rfl (by omega) rfl ?_)
  refine rw_t 56 rfl rfl rfl (do_move rfl ?_)
  first
    | refine rw_t 57 rfl rfl rfl (do_ixn rfl rfl rfl (by omega) ?_)
    | refine rw_t 57 rfl rfl rfl (do_ix0 rfl rfl rfl (by omega) ?_)
    | refine rw_t 57 rfl rfl rfl (do_ix rfl rfl rfl (by omega) ?_)
  first
    | refine rw_t 58 rfl rfl rfl (do_load_box rfl rfl rfl ?_)
    | refine rw_t 58 rfl rfl rfl (do_load_arr rfl rfl (by first | omega | (simp only [ls]; omega)) rfl ?_)
    | refine rw_t 58 rfl rfl rfl (n_load_boxagg [_] rfl rfl (Nat.le_of_ble_eq_true rfl) rfl ?_)
    | refine rw_t 58 rfl rfl rfl (n_load_arragg [_] rfl rfl rfl (by omega) rfl ?_)
  refine rw_nil ?_
  refine w_cond rfl (fun hc4 => ?_) (fun hc4 => ?_)
  all_goals try simp only [bs] at hc4
  · -- region 12
    refine w_region ?_
    refine rw_t 59 rfl rfl rfl (do_move rfl ?_)
    refine rw_t 60 rfl rfl rfl (do_move rfl ?_)
    refine rw_t 61 rfl rfl rfl (do_move rfl ?_)
    first
      | refine rw_t 62 rfl rfl rfl (do_ixn rfl rfl rfl (by omega) ?_)
      | refine rw_t 62 rfl rfl rfl (do_ix0 rfl rfl rfl (by omega) ?_)
      | refine rw_t 62 rfl rfl rfl (do_ix rfl rfl rfl (by omega) ?_)
    first
      | refine rw_t 63 rfl rfl rfl (do_load_box rfl rfl rfl ?_)
      | refine rw_t 63 rfl rfl rfl (do_load_arr rfl rfl (by first | omega | (simp only [ls]; omega)) rfl ?_)
      | refine rw_t 63 rfl rfl rfl (n_load_boxagg [_] rfl rfl (Nat.le_of_ble_eq_true rfl) rfl ?_)
      | refine rw_t 63 rfl rfl rfl (n_load_arragg [_] rfl rfl rfl (by omega) rfl ?_)
    refine rw_t 64 rfl rfl rfl (n_bs (nm := 9) Int (encI .i64) 0 [flowAt c f i] rfl rfl rfl rfl rfl (fun _ => rfl) (fun _ _ h => by simp [encI] at h; subst h; rfl) rfl ?_)
    refine rw_t 65 rfl rfl rfl (n_append_own (nm := 10) rfl rfl rfl rfl rfl (by first | omega | (simp only [resOf_len]; omega)) (by simp) (by omega) (by omega) rfl ?_)
    refine rw_t 6 rfl rfl rfl (do_assign rfl ?_)
    refine rw_nil ?_
    refine w_region ?_
    refine rw_t 15 rfl rfl rfl (do_move rfl ?_)
    refine rw_t 16 rfl rfl rfl (do_add rfl rfl (by omega) ?_)
    refine rw_t 7 rfl rfl rfl (do_assign rfl ?_)
    refine rw_nil ?_
    refine ⟨i + 1, [0, 1, 2, 3, 4, 5, 6, 10, 8], by dsimp only; omega, by omega, ⟨shR rfl, shR rfl, shR rfl, shR rfl, shR rfl, shR rfl, shR rfl, .inr ⟨_, rfl, .inl (congrArg (SO.ints true .i64) ((resOf_next c f i).trans ((congrArg (fun x => resOf c f i ++ [x]) (if_pos hc4)).trans (list_app _ (resOf_len c f i).symm))))⟩, shR rfl, trivial⟩, rfl, pre_ok rfl, ⟨⟨_, rfl, rfl⟩, ⟨_, rfl, rfl⟩, ⟨_, rfl, rfl⟩, ⟨_, rfl, rfl⟩, trivial⟩⟩
  · -- region 13
    refine w_region ?_
    refine rw_t 66 rfl rfl rfl (do_move rfl ?_)
    refine rw_t 67 rfl rfl rfl (do_move rfl ?_)
    refine rw_t 68 rfl rfl rfl (do_move rfl ?_)
    refine rw_t 69 rfl rfl rfl (do_move rfl ?_)
    first
      | refine rw_t 70 rfl rfl rfl (do_ixn rfl rfl rfl (by omega) ?_)
      | refine rw_t 70 rfl rfl rfl (do_ix0 rfl rfl rfl (by omega) ?_)
      | refine rw_t 70 rfl rfl rfl (do_ix rfl rfl rfl (by omega) ?_)
    first
      | refine rw_t 71 rfl rfl rfl (do_load_box rfl rfl rfl ?_)
      | refine rw_t 71 rfl rfl rfl (do_load_arr rfl rfl (by first | omega | (simp only [ls]; omega)) rfl ?_)
      | refine rw_t 71 rfl rfl rfl (n_load_boxagg [_] rfl rfl (Nat.le_of_ble_eq_true rfl) rfl ?_)
      | refine rw_t 71 rfl rfl rfl (n_load_arragg [_] rfl rfl rfl (by omega) rfl ?_)
    refine rw_t 72 rfl rfl rfl (do_sub rfl rfl (by omega) ?_)
    refine rw_t 73 rfl rfl rfl (n_bs (nm := 9) Int (encI .i64) 0 [mostOf c i - flowAt c f i] rfl rfl rfl rfl rfl (fun _ => rfl) (fun _ _ h => by simp [encI] at h; subst h; rfl) rfl ?_)
    refine rw_t 74 rfl rfl rfl (n_append_own (nm := 10) rfl rfl rfl rfl rfl (by first | omega | (simp only [resOf_len]; omega)) (by simp) (by omega) (by omega) rfl ?_)
    refine rw_t 6 rfl rfl rfl (do_assign rfl ?_)
    refine rw_nil ?_
    refine w_region ?_
    refine rw_t 15 rfl rfl rfl (do_move rfl ?_)
    refine rw_t 16 rfl rfl rfl (do_add rfl rfl (by omega) ?_)
    refine rw_t 7 rfl rfl rfl (do_assign rfl ?_)
    refine rw_nil ?_
    refine ⟨i + 1, [0, 1, 2, 3, 4, 5, 6, 10, 8], by dsimp only; omega, by omega, ⟨shR rfl, shR rfl, shR rfl, shR rfl, shR rfl, shR rfl, shR rfl, .inr ⟨_, rfl, .inl (congrArg (SO.ints true .i64) ((resOf_next c f i).trans ((congrArg (fun x => resOf c f i ++ [x]) (if_neg (by rw [hc4]; decide))).trans (list_app _ (resOf_len c f i).symm))))⟩, shR rfl, trivial⟩, rfl, pre_ok rfl, ⟨⟨_, rfl, rfl⟩, ⟨_, rfl, rfl⟩, ⟨_, rfl, rfl⟩, ⟨_, rfl, rfl⟩, trivial⟩⟩
end Go.Proofs

set_option linter.unusedVariables false
namespace Go.Proofs
open Go Go.Sx Go.RowKit

theorem mem_rowOf {v : Int} {a : Arc} {k : Nat} {r : Row} : r ∈ rowOf v a k ↔ a.frm ≠ a.to ∧ ((a.frm = v ∧ r = ⟨a.to, a.cap, k, false⟩) ∨ (a.to = v ∧ r = ⟨a.frm, 0, k, true⟩)) := by
  unfold rowOf
  by_cases h : a.frm = a.to
  · simp [h]
  · rw [if_neg h, List.mem_append]
    by_cases h1 : a.frm = v <;> by_cases h2 : a.to = v <;> simp [h1, h2, h]
    all_goals first | omega | skip
    all_goals intro _; omega
theorem mem_rowsAt {n : Net} {v : Int} {r : Row} : ∀ {m : Nat}, r ∈ rowsAt n v m ↔ ∃ j, j < m ∧ r ∈ rowOf v (n.arcs.getD j Arc.none) j := by
  intro m
  simp [rowsAt]
theorem mem_rowsOf {n : Net} {v : Nat} {r : Row} : r ∈ rowsOf n v ↔ ∃ u : Nat, u < v ∧ r ∈ rowsAt n (u : Int) n.arcs.length := by
  simp [rowsOf]
theorem mem_rows {n : Net} (h : NetOK n) {r : Row} : r ∈ rows n ↔ ∃ k, k < n.arcs.length ∧ (n.arcs.getD k Arc.none).frm ≠ (n.arcs.getD k Arc.none).to ∧
    (r = ⟨(n.arcs.getD k Arc.none).to, (n.arcs.getD k Arc.none).cap, k, false⟩ ∨ r = ⟨(n.arcs.getD k Arc.none).frm, 0, k, true⟩) := by
  unfold rows
  rw [mem_rowsOf]
  constructor
  · rintro ⟨u, hu, hr⟩
    obtain ⟨j, hj, hr⟩ := mem_rowsAt.1 hr
    obtain ⟨h1, h2⟩ := mem_rowOf.1 hr
    refine ⟨j, hj, h1, ?_⟩
    rcases h2 with ⟨_, h2⟩ | ⟨_, h2⟩
    · exact .inl h2
    · exact .inr h2
  · rintro ⟨k, hk, h1, h2⟩
    have ha := h.arc hk
    rcases h2 with h2 | h2
    · refine ⟨(n.arcs.getD k Arc.none).frm.toNat, by omega, mem_rowsAt.2 ⟨k, hk, mem_rowOf.2 ⟨h1, .inl ⟨by omega, h2⟩⟩⟩⟩
    · refine ⟨(n.arcs.getD k Arc.none).to.toNat, by omega, mem_rowsAt.2 ⟨k, hk, mem_rowOf.2 ⟨h1, .inr ⟨by omega, h2⟩⟩⟩⟩
def Row.key (r : Row) : Int × Bool := (r.arc, r.back)
theorem keysAt (n : Net) (v : Int) (m : Nat) : ((rowsAt n v m).map Row.key).Nodup := by
  induction m with
  | zero => simp [rowsAt]
  | succ m ih =>
    rw [rowsAt_next, List.map_append, List.nodup_append]
    refine ⟨ih, ?_, ?_⟩
    · unfold rowOf
      split
      · simp
      · split <;> split <;> simp [Row.key]
    · intro x hx y hy hxy
      obtain ⟨r, hr, rfl⟩ := List.mem_map.1 hx
      obtain ⟨r', hr', rfl⟩ := List.mem_map.1 hy
      obtain ⟨j, hj, hr⟩ := mem_rowsAt.1 hr
      obtain ⟨_, h1⟩ := mem_rowOf.1 hr
      obtain ⟨_, h2⟩ := mem_rowOf.1 hr'
      have e1 : r.arc = (j : Int) := by rcases h1 with ⟨_, rfl⟩ | ⟨_, rfl⟩ <;> rfl
      have e2 : r'.arc = (m : Int) := by rcases h2 with ⟨_, rfl⟩ | ⟨_, rfl⟩ <;> rfl
      simp only [Row.key, Prod.mk.injEq] at hxy
      omega
/-- From which vertex a residual arc goes. -/
def endOf (n : Net) (x : Int × Bool) : Int := if x.2 then (n.arcs.getD x.1.toNat Arc.none).to else (n.arcs.getD x.1.toNat Arc.none).frm
theorem end_rowsAt {n : Net} {v : Int} {m : Nat} {r : Row} (h : r ∈ rowsAt n v m) : endOf n r.key = v := by
  obtain ⟨j, hj, h⟩ := mem_rowsAt.1 h
  obtain ⟨_, h1⟩ := mem_rowOf.1 h
  rcases h1 with ⟨h2, rfl⟩ | ⟨h2, rfl⟩ <;> simpa [endOf, Row.key] using h2
theorem keysOf (n : Net) (v : Nat) : ((rowsOf n v).map Row.key).Nodup := by
  induction v with
  | zero => simp [rowsOf]
  | succ v ih =>
    rw [rowsOf_next, List.map_append, List.nodup_append]
    refine ⟨ih, keysAt n v _, ?_⟩
    intro x hx y hy hxy
    obtain ⟨r, hr, rfl⟩ := List.mem_map.1 hx
    obtain ⟨r', hr', rfl⟩ := List.mem_map.1 hy
    obtain ⟨u, hu, hr⟩ := mem_rowsOf.1 hr
    have e1 := end_rowsAt hr
    have e2 := end_rowsAt hr'
    rw [hxy, e2] at e1
    omega
theorem key_inj {n : Net} {i j : Nat} (hi : i < (rows n).length) (hj : j < (rows n).length) (h : ((rows n).getD i Row.none).key = ((rows n).getD j Row.none).key) : i = j := by
  have hk := keysOf n n.N.toNat
  have hk : ((rows n).map Row.key).Nodup := hk
  rw [List.Nodup, List.pairwise_iff_getElem] at hk
  have e1 : (rows n).getD i Row.none = (rows n)[i] := by simp [List.getD, hi]
  have e2 : (rows n).getD j Row.none = (rows n)[j] := by simp [List.getD, hj]
  rw [e1, e2] at h
  rcases Nat.lt_trichotomy i j with h1 | h1 | h1
  · exact (hk i j (by simpa using hi) (by simpa using hj) h1 (by simpa using h)).elim
  · exact h1
  · exact (hk j i (by simpa using hj) (by simpa using hi) h1 (by simpa using h.symm)).elim
end Go.Proofs

set_option linter.unusedVariables false
namespace Go.Proofs
open Go Go.Sx Go.RowKit

theorem filter_one {p : Nat → Bool} {j : Nat} : ∀ {m : Nat}, j < m → (∀ x, x < m → (p x = true ↔ x = j)) → (List.range m).filter p = [j]
  | 0, h, _ => by omega
  | m + 1, h, hp => by
    rw [List.range_succ, List.filter_append]
    by_cases hj : j = m
    · subst hj
      have h1 : (List.range j).filter p = [] := by
        rw [List.filter_eq_nil_iff]
        intro x hx
        have hx := List.mem_range.1 hx
        rw [hp x (by omega)]
        omega
      have h2 : p j = true := (hp j (by omega)).2 rfl
      rw [h1]; simp [h2]
    · have h1 := filter_one (p := p) (j := j) (m := m) (by omega) (fun x hx => hp x (by omega))
      have h2 : p m = false := by
        cases hb : p m with
        | false => rfl
        | true => exact (hj ((hp m (by omega)).1 hb).symm).elim
      rw [h1]; simp [h2]
theorem row_mem {n : Net} {i : Nat} (hi : i < (rows n).length) : (rows n).getD i Row.none ∈ rows n := getD_mem _ hi
theorem mem_at {n : Net} {r : Row} (h : r ∈ rows n) : ∃ j, j < (rows n).length ∧ (rows n).getD j Row.none = r := by
  obtain ⟨j, hj, e⟩ := List.getElem_of_mem h
  exact ⟨j, hj, by simp [List.getD, hj, e]⟩
/-- Each residual arc has one partner. -/
theorem partner {n : Net} (h : NetOK n) {i : Nat} (hi : i < (rows n).length) : ∃ j, j < (rows n).length ∧ j ≠ i ∧ revAt (rows n) i (rows n).length = [(j : Int)] ∧ ((rows n).getD j Row.none).arc = ((rows n).getD i Row.none).arc ∧
    ((rows n).getD j Row.none).back = !((rows n).getD i Row.none).back := by
  obtain ⟨k, hk, hne, hr⟩ := (mem_rows h).1 (row_mem hi)
  have hp : ∃ r' ∈ rows n, r'.arc = ((rows n).getD i Row.none).arc ∧ r'.back = !((rows n).getD i Row.none).back := by
    rcases hr with hr | hr
    · exact ⟨_, (mem_rows h).2 ⟨k, hk, hne, .inr rfl⟩, by rw [hr], by rw [hr]; rfl⟩
    · exact ⟨_, (mem_rows h).2 ⟨k, hk, hne, .inl rfl⟩, by rw [hr], by rw [hr]; rfl⟩
  obtain ⟨r', hr', h1, h2⟩ := hp
  obtain ⟨j, hj, rfl⟩ := mem_at hr'
  have hji : j ≠ i := by
    intro e
    rw [e] at h2
    cases hb : ((rows n).getD i Row.none).back <;> rw [hb] at h2 <;> cases h2
  refine ⟨j, hj, hji, ?_, h1, h2⟩
  unfold revAt
  rw [filter_one hj]
  · rfl
  · intro x hx
    rw [decide_eq_true_eq]
    constructor
    · rintro ⟨e1, e2⟩
      -- the same arc: either end
      cases hb : ((rows n).getD x Row.none).back == ((rows n).getD i Row.none).back with
      | true =>
        have hb := eq_of_beq hb
        exact (e2 (key_inj hi hx (by unfold Row.key; rw [e1, hb]))).elim
      | false =>
        have hb : ((rows n).getD x Row.none).back ≠ ((rows n).getD i Row.none).back := by simpa using hb
        refine key_inj hx hj ?_
        unfold Row.key
        rw [h1, ← e1, h2]
        congr 1
        revert hb
        cases ((rows n).getD x Row.none).back <;> cases ((rows n).getD i Row.none).back <;> simp
    · rintro rfl
      exact ⟨h1.symm, Ne.symm hji⟩
theorem revOf_one {n : Net} (h : NetOK n) : ∀ {i : Nat}, i ≤ (rows n).length → (revOf (rows n) i).length = i
  | 0, _ => by simp [revOf]
  | i + 1, hi => by
    obtain ⟨j, _, _, h1, _⟩ := partner h (i := i) (by omega)
    rw [revOf_next, List.length_append, revOf_one h (by omega), h1]; rfl
theorem revOf_get {n : Net} (h : NetOK n) : ∀ {m i : Nat}, m ≤ (rows n).length → i < m → revAt (rows n) i (rows n).length = [(revOf (rows n) m).getD i 0]
  | 0, i, _, hi => by omega
  | m + 1, i, hm, hi => by
    have hl := revOf_one h (i := m) (by omega)
    rw [revOf_next]
    rcases Nat.lt_or_ge i m with h1 | h1
    · rw [revOf_get h (m := m) (by omega) h1]
      simp only [List.getD]
      rw [List.getElem?_append_left (by omega)]
    · have : i = m := by omega
      subst this
      obtain ⟨j, _, _, h2, _⟩ := partner h (i := i) (by omega)
      rw [h2]
      simp only [List.getD]
      rw [List.getElem?_append_right (by omega), hl]
      simp
/-- The partner, by the row's own numbers. -/
theorem rev_spec {n : Net} (h : NetOK n) {i : Nat} (hi : i < (rows n).length) : ∃ j, j < (rows n).length ∧ j ≠ i ∧ (makeC n).Rev.getD i 0 = (j : Int) ∧ ((rows n).getD j Row.none).arc = ((rows n).getD i Row.none).arc ∧
    ((rows n).getD j Row.none).back = !((rows n).getD i Row.none).back := by
  obtain ⟨j, h1, h2, h3, h4, h5⟩ := partner h hi
  have := revOf_get h (Nat.le_refl _) hi
  rw [h3] at this
  simp only [List.cons.injEq, and_true] at this
  exact ⟨j, h1, h2, this.symm, h4, h5⟩
end Go.Proofs

set_option linter.unusedVariables false
namespace Go.Proofs
open Go Go.Sx Go.RowKit

theorem getD_cap (l : List Row) (i : Nat) : (l.map Row.cap).getD i 0 = (l.getD i Row.none).cap := by
  simp only [List.getD, List.getElem?_map]
  cases l[i]? <;> rfl
theorem getD_hd (l : List Row) (i : Nat) : (l.map Row.hd).getD i 0 = (l.getD i Row.none).hd := by
  simp only [List.getD, List.getElem?_map]
  cases l[i]? <;> rfl
theorem getD_back (l : List Row) (i : Nat) : (l.map Row.back).getD i false = (l.getD i Row.none).back := by
  simp only [List.getD, List.getElem?_map]
  cases l[i]? <;> rfl
theorem rows_len {n : Net} (h : NetOK n) (hs : n.N ≤ 64 ∧ n.arcs.length ≤ 64) : (rows n).length ≤ 8192 := by
  have hb := rowsOf_len n n.N.toNat
  have hb2 : n.N.toNat * (2 * n.arcs.length) ≤ 64 * (2 * 64) := Nat.mul_le_mul (by omega) (by omega)
  show (rowsOf n n.N.toNat).length ≤ 8192
  omega
theorem make_head (n : Net) : (makeC n).Head.length = (rows n).length := by simp [makeC]
theorem make_len {n : Net} (h : NetOK n) (hs : n.N ≤ 64 ∧ n.arcs.length ≤ 64) : CsrLen (makeC n) where
  n := ⟨h.lo, h.hi⟩
  first := by simp [makeC, firstOf_len]
  head := by rw [make_head]; have := rows_len h hs; omega
  rev := by rw [make_head]; exact revOf_one h (Nat.le_refl _)
  cap := by simp [makeC]
  arc := by simp [makeC]
  back := by simp [makeC]
/-- What a residual arc is: of which arc, and which way. -/
theorem row_cases {n : Net} (h : NetOK n) {i : Nat} (hi : i < (rows n).length) : ∃ k, k < n.arcs.length ∧ (n.arcs.getD k Arc.none).frm ≠ (n.arcs.getD k Arc.none).to ∧
    ((rows n).getD i Row.none = ⟨(n.arcs.getD k Arc.none).to, (n.arcs.getD k Arc.none).cap, k, false⟩ ∨ (rows n).getD i Row.none = ⟨(n.arcs.getD k Arc.none).frm, 0, k, true⟩) := (mem_rows h).1 (row_mem hi)
theorem most_spec {n : Net} (h : NetOK n) {i k : Nat} (hi : i < (rows n).length) (hk : ((rows n).getD i Row.none).arc = k) : mostOf (makeC n) i = (n.arcs.getD k Arc.none).cap := by
  obtain ⟨j, h1, h2, h3, h4, h5⟩ := rev_spec h hi
  unfold mostOf
  rw [h3, Int.toNat_natCast]
  show ((rows n).map Row.cap).getD i 0 + ((rows n).map Row.cap).getD j 0 = _
  rw [getD_cap, getD_cap]
  obtain ⟨k1, q1, q2, q3⟩ := row_cases h hi
  obtain ⟨k2, r1, r2, r3⟩ := row_cases h h1
  have e1 : ((rows n).getD i Row.none).arc = (k1 : Int) := by rcases q3 with q3 | q3 <;> rw [q3]
  have e2 : ((rows n).getD j Row.none).arc = (k2 : Int) := by rcases r3 with r3 | r3 <;> rw [r3]
  have e3 : k1 = k := by omega
  have e4 : k2 = k := by omega
  subst e3; subst e4
  rcases q3 with q3 | q3 <;> rcases r3 with r3 | r3 <;> rw [q3, r3] at h5 ⊢ <;> simp at h5 ⊢
theorem cap_le {n : Net} (h : NetOK n) {k : Nat} (hk : k < n.arcs.length) : (n.arcs.getD k Arc.none).cap ≤ 4611686018427387904 := by
  have h1 := h.part (k + 1)
  have h2 := h.part k
  rw [capSum_next hk] at h1
  omega
/-- A flow within the capacities may be of the row. -/
theorem res_in {n : Net} (h : NetOK n) {f : List Int} (hl : f.length = n.arcs.length) (hf : ∀ k, k < n.arcs.length → 0 ≤ f.getD k 0 ∧ f.getD k 0 ≤ (n.arcs.getD k Arc.none).cap) : ResIn (makeC n) f where
  arc := by
    intro a ha
    rw [make_head] at ha
    show 0 ≤ ((rows n).map Row.arc).getD a 0 ∧ ((rows n).map Row.arc).getD a 0 < f.length
    rw [getD_arc]
    obtain ⟨k, q1, q2, q3⟩ := row_cases h ha
    have e1 : ((rows n).getD a Row.none).arc = (k : Int) := by rcases q3 with q3 | q3 <;> rw [q3]
    omega
  rev := by
    intro a ha
    rw [make_head] at ha ⊢
    obtain ⟨j, h1, h2, h3, h4, h5⟩ := rev_spec h ha
    omega
  flow := by
    intro a ha
    rw [make_head] at ha
    obtain ⟨k, q1, q2, q3⟩ := row_cases h ha
    have e1 : ((rows n).getD a Row.none).arc = (k : Int) := by rcases q3 with q3 | q3 <;> rw [q3]
    rw [most_spec h ha e1]
    have e2 : flowAt (makeC n) f a = f.getD k 0 := by
      unfold flowAt
      show f.getD (((rows n).map Row.arc).getD a 0).toNat 0 = _
      rw [getD_arc, e1, Int.toNat_natCast]
    rw [e2]
    have := hf k q1
    have := cap_le h q1
    omega
end Go.Proofs

set_option linter.unusedVariables false
namespace Go.Proofs
open Go Go.Sx Go.RowKit
/-- A preflow: what is left, excesses, heights. -/
structure Pre where
  Res : List Int
  Ex : List Int
  H : List Int
abbrev Pre.sv (p : Pre) (o : Nat) : SV := .agg [.slc o 0 p.Res.length none, .slc (o + 1) 0 p.Ex.length none, .slc (o + 2) 0 p.H.length none]
def fullArc (n : Net) (k : Nat) : Prop := (n.arcs.getD k Arc.none).frm = n.S ∧ (n.arcs.getD k Arc.none).to ≠ n.S
instance (n : Net) (k : Nat) : Decidable (fullArc n k) := by unfold fullArc; exact inferInstance
def begF (n : Net) : Nat → List Int
  | 0 => List.replicate n.arcs.length 0
  | k + 1 => if fullArc n k then (begF n k).set k (n.arcs.getD k Arc.none).cap else begF n k
def addAt (l : List Int) (i : Int) (x : Int) : List Int := l.set i.toNat (l.getD i.toNat 0 + x)
def begX (n : Net) : Nat → List Int
  | 0 => List.replicate n.N.toNat 0
  | k + 1 => if fullArc n k then ((begX n k).set (n.arcs.getD k Arc.none).frm.toNat ((begX n k).getD (n.arcs.getD k Arc.none).frm.toNat 0 - (n.arcs.getD k Arc.none).cap)).set (n.arcs.getD k Arc.none).to.toNat (((begX n k).set (n.arcs.getD k Arc.none).frm.toNat ((begX n k).getD (n.arcs.getD k Arc.none).frm.toNat 0 - (n.arcs.getD k Arc.none).cap)).getD (n.arcs.getD k Arc.none).to.toNat 0 + (n.arcs.getD k Arc.none).cap) else begX n k
def begH (n : Net) : List Int := (List.replicate n.N.toNat 0).set n.S.toNat n.N
def begP (n : Net) : Pre := ⟨resOf (makeC n) (begF n n.arcs.length) (makeC n).Head.length, begX n n.arcs.length, begH n⟩
theorem begF_len (n : Net) : ∀ k, (begF n k).length = n.arcs.length
  | 0 => by simp [begF]
  | k + 1 => by simp only [begF]; split <;> simp [begF_len n k]
theorem begX_len (n : Net) : ∀ k, (begX n k).length = n.N.toNat
  | 0 => by simp [begX]
  | k + 1 => by simp only [begX]; split <;> simp [begX_len n k]
theorem getD_set (l : List Int) (i j : Nat) (x : Int) (hi : i < l.length) : (l.set i x).getD j 0 = if i = j then x else l.getD j 0 := by
  simp only [List.getD, List.getElem?_set]
  split
  · rename_i h; subst h; simp [hi]
  · rfl
theorem begF_in {n : Net} (h : NetOK n) : ∀ m, m ≤ n.arcs.length → ∀ k, k < n.arcs.length → 0 ≤ (begF n m).getD k 0 ∧ (begF n m).getD k 0 ≤ (n.arcs.getD k Arc.none).cap
  | 0, _, k, hk => by
    have := h.arc hk
    simp only [begF, List.getD, List.getElem?_replicate, hk, if_true, Option.getD_some]
    exact ⟨Int.le_refl _, this.2.2.2.2⟩
  | m + 1, hm, k, hk => by
    have ih := begF_in h m (by omega) k hk
    simp only [begF]
    split
    · rw [getD_set _ _ _ _ (by rw [begF_len]; omega)]
      split
      · rename_i e; subst e
        have := h.arc hk
        exact ⟨this.2.2.2.2, Int.le_refl _⟩
      · exact ih
    · exact ih
theorem begX_in {n : Net} (h : NetOK n) : ∀ m, m ≤ n.arcs.length → ∀ v, -(capSum (n.arcs.take m)) ≤ (begX n m).getD v 0 ∧ (begX n m).getD v 0 ≤ capSum (n.arcs.take m)
  | 0, _, v => by
    simp only [begX, List.getD, List.getElem?_replicate, List.take_zero]
    split <;> simp [capSum]
  | m + 1, hm, v => by
    have ih := begX_in h m (by omega)
    have ha := h.arc (i := m) (by omega)
    have hc := capSum_next (n := n) (i := m) (by omega)
    simp only [begX]
    split
    · rename_i hf
      have hne : (n.arcs.getD m Arc.none).frm.toNat ≠ (n.arcs.getD m Arc.none).to.toNat := by
        unfold fullArc at hf; have := h.s; omega
      rw [getD_set _ _ _ _ (by rw [List.length_set, begX_len]; omega), getD_set _ _ _ _ (by rw [begX_len]; omega), getD_set _ _ _ _ (by rw [begX_len]; omega)]
      have i1 := ih v
      have i2 := ih (n.arcs.getD m Arc.none).frm.toNat
      have i3 := ih (n.arcs.getD m Arc.none).to.toNat
      rw [if_neg hne]
      split
      · omega
      · split <;> omega
    · have := ih v; omega
end Go.Proofs
