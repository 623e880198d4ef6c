/- If nobody is active what is left is of a flow, T is not reached from S, and no flow is worth more. Part 2. -/
import Derived.Test.YtmmjpjhhbpehcaaW1
import Derived.RangeFuncRecord
import Derived.Test.YtmmjpjhhbpehcaaProg
set_option linter.unusedVariables false
set_option linter.unusedSimpArgs false
set_option linter.unusedVariables false
namespace Go.Sx
open Go Go.RowKit

/-- A row that is only read is served by any. -/
theorem srv {α : Type} {own : Bool} {sz : Nat} {enc : α → List Value} {d : α} {xs : List α} : Serves (.arr α false sz enc d xs) (.arr α own sz enc d xs) := by
  cases own with
  | false => exact .inl rfl
  | true => exact .inr ⟨_, _, _, _, _, rfl, rfl⟩
def noOwn : List SO → Bool
  | [] => true
  | x :: l => !x.own && noOwn l
theorem upd_ro {f : Nat → Nat} : ∀ {σ : List Nat} {H0 N H : List SO}, noOwn H0 = true → σ.length = H0.length → upd f H σ H0 (H0 ++ N) = H ++ N.map (SO.ren f)
  | [], [], N, H, _, _ => by cases N <;> rfl
  | o :: σ, x :: H0, N, H, h, hl => by
    simp only [noOwn, Bool.and_eq_true, Bool.not_eq_true'] at h
    simp only [List.cons_append, upd, h.1, cond_false]
    exact upd_ro h.2 (by simpa using hl)
  | [], _ :: _, _, _, _, hl => by simp at hl
  | _ :: _, [], _, _, _, hl => by simp at hl
theorem okNew_ro : ∀ {H0 N : List SO}, noOwn H0 = true → allOwn N = true → okNew H0 (H0 ++ N)
  | [], N, _, h => by
    intro y hy
    obtain ⟨k, hk⟩ := List.mem_iff_getElem?.1 hy
    have : y = .dead ∨ y.own = true := by
      have gen : ∀ {N : List SO}, allOwn N = true → ∀ (k : Nat) (y : SO), N[k]? = some y → y = .dead ∨ y.own = true := by
        intro N
        induction N with
        | nil => intro _ k y h; simp at h
        | cons z N ih =>
          intro hb k y h
          cases k with
          | zero =>
            simp at h; subst h
            cases z with
            | dead => exact .inl rfl
            | box cs => exact .inr rfl
            | gen cs q => exact .inr rfl
            | arr α own sz enc d xs => simp only [allOwn, Bool.and_eq_true] at hb; exact .inr hb.1
          | succ k =>
            refine ih ?_ k y (by simpa using h)
            cases z with
            | dead => simpa [allOwn] using hb
            | box cs => simp only [allOwn, Bool.and_eq_true] at hb; exact hb.2
            | gen cs q => simp only [allOwn, Bool.and_eq_true] at hb; exact hb.2
            | arr α own sz enc d xs => simp only [allOwn, Bool.and_eq_true] at hb; exact hb.2
      exact gen h k y hk
    exact this.symm
  | x :: H0, N, h, hN => by
    simp only [noOwn, Bool.and_eq_true, Bool.not_eq_true'] at h
    simp only [List.cons_append, okNew]
    exact ⟨fun hc => absurd (h.1.symm.trans hc) (by simp), okNew_ro h.2 hN⟩
theorem clash_ff {a b : Option Bool} (ha : a ≠ some true) (hb : b ≠ some true) : clash a b = false := by
  cases a with
  | none => rfl
  | some a => cases b with
    | none => rfl
    | some b => cases a <;> cases b <;> simp_all [clash]
theorem noOwn_owns : ∀ {H : List SO}, noOwn H = true → ∀ b ∈ owns H, b ≠ some true
  | [], _, b, hb => by simp [owns] at hb
  | y :: H, hh, b, hb => by
    simp only [noOwn, Bool.and_eq_true, Bool.not_eq_true'] at hh
    simp only [owns, List.map_cons, List.mem_cons] at hb
    rcases hb with rfl | hb
    · intro hc
      have h1 := hh.1
      cases y <;> simp_all [ownD, SO.own]
    · exact noOwn_owns hh.2 b hb
theorem sep_ro : ∀ {σ : List Nat} {H0 : List SO}, noOwn H0 = true → σ.length = H0.length → sep σ (owns H0) = true
  | [], [], _, _ => rfl
  | o :: σ, x :: H0, h, hl => by
    have h0 := noOwn_owns h
    simp only [noOwn, Bool.and_eq_true, Bool.not_eq_true'] at h
    simp only [owns, List.map_cons, sep, Bool.and_eq_true, List.all_eq_true]
    refine ⟨fun p hp => ?_, sep_ro h.2 (by simpa using hl)⟩
    have h1 := (List.of_mem_zip hp).2
    rw [clash_ff (h0 _ (by simp [owns])) (h0 _ (by simp only [owns, List.map_cons, List.mem_cons]; exact .inr h1))]
    rfl
  | [], _ :: _, _, h => by simp at h
  | _ :: _, [], _, h => by simp at h
theorem rw_as {P : Program} {C : Cx} {ops : Array Oper} {rest : List Oper} {t : Nat} {s : SV} {e : Env} {H : List SO} {K : Exit → Env → List SO → Prop} (s' : SV) (h : s = s') (k : RW P C ops rest ((t, s') :: e) H K) : RW P C ops rest ((t, s) :: e) H K := h ▸ k
theorem allPlain {l : List SV} (h : l.all SV.plain = true) : ∀ s ∈ l, s.plain = true := List.all_eq_true.1 h
section call
variable {P : Program} {r : Option Nat} {d : Option Tmp} {t : TypeId} {ps : String} {af : Array Edge} {gd : Option (Nat × Bool)} {e : Env} {H : List SO} {K : SV → List SO → Prop}
/-- A call that only reads, and makes new objects N. -/
theorem do_callN {f : Operand} {args : Array Operand} {ats : Array TypeId} {g : FuncId} {fs cs ag args0 : List SV} {H0 N : List SO} {X : SV} [FnOK P g] (hf : ev e f = some (.func g fs cs)) (ha : evs e args.toList = some ag)
    (T : Tri P g args0 H0 fun s H1 => s = X ∧ H1 = H0 ++ N) (σ : List Nat) (hH : ShH (nm σ H.length) H σ H0) (hro : noOwn H0 = true) (hN : allOwn N = true) (hargs : fs ++ ag ++ cs = rens (nm σ H.length) args0)
    {X' : SV} {N' : List SO} (hX : X.ren (nm σ H.length) = X') (hN' : N.map (SO.ren (nm σ H.length)) = N') (k : K X' (H ++ N')) : OpDo P r ⟨d, .call ⟨.value f, args, ats⟩, t, ps, af, gd⟩ e H K := by
  refine do_call hf ha (T.frame σ hH (sep_ro hro hH.len) hargs ?_)
  rintro s H1 ⟨rfl, rfl⟩
  refine ⟨okNew_ro hro hN, ?_⟩
  rw [upd_ro hro hH.len, hX, hN']
  exact k
/-- A call that only reads, and makes nothing. -/
theorem do_callR {f : Operand} {args : Array Operand} {ats : Array TypeId} {g : FuncId} {fs cs ag args0 : List SV} {H0 : List SO} {X : SV} [FnOK P g] (hf : ev e f = some (.func g fs cs)) (ha : evs e args.toList = some ag)
    (T : Tri P g args0 H0 fun s H1 => s = X ∧ H1 = H0) (σ : List Nat) (hH : ShH (nm σ H.length) H σ H0) (hro : noOwn H0 = true) (hargs : fs ++ ag ++ cs = rens (nm σ H.length) args0)
    {X' : SV} (hX : X.ren (nm σ H.length) = X') (k : K X' H) : OpDo P r ⟨d, .call ⟨.value f, args, ats⟩, t, ps, af, gd⟩ e H K :=
  do_callN (N := []) (N' := []) hf ha (T.mono fun s H1 h => ⟨h.1, by rw [h.2, List.append_nil]⟩) σ hH hro rfl hargs hX rfl (by rw [List.append_nil]; exact k)
end call
end Go.Sx

set_option linter.unusedVariables false
namespace Go.Sx
open Go Go.RowKit
universe u

class LSet {α : Type u} (l : List α) (n : Nat) (x : α) (l' : outParam (List α)) : Prop where
  eq : l.set n x = l'
instance {α : Type u} {a x : α} {l : List α} : LSet (a :: l) 0 x (x :: l) := ⟨rfl⟩
instance {α : Type u} {a x : α} {l l' : List α} {n : Nat} [h : LSet l n x l'] : LSet (a :: l) (n + 1) x (a :: l') := ⟨by rw [List.set_cons_succ, h.eq]⟩
class LApp {α : Type u} (l m : List α) (l' : outParam (List α)) : Prop where
  eq : l ++ m = l'
instance {α : Type u} {m : List α} : LApp [] m m := ⟨rfl⟩
instance {α : Type u} {a : α} {l m l' : List α} [h : LApp l m l'] : LApp (a :: l) m (a :: l') := ⟨by rw [List.cons_append, h.eq]⟩

section ops
variable {P : Program} {r : Option Nat} {d : Option Tmp} {t : TypeId} {ps : String} {af : Array Edge} {g : Option (Nat × Bool)} {e : Env} {H H1 H' : List SO} {K : SV → List SO → Prop}

theorem n_store_box {T : TypeId} {x y : Operand} {o f : Nat} {cs cs' : List SV} {s : SV} [hT : TyOne P T] (hx : ev e x = some (.ptr o 0 f)) (hy : ev e y = some s) (ho : H[o]? = some (.box cs)) (hf : f < cs.length) (hp : s.plain = true)
    [h1 : LSet cs f s cs'] [h2 : LSet H o (.box cs') H'] (k : K (.val undef) H') : OpDo P r ⟨d, .store T x y, t, ps, af, g⟩ e H K :=
  do_store_box hx hy ho hf hp (by rw [h1.eq, h2.eq]; exact k)
theorem n_store_whole {T : TypeId} {x y : Operand} {o n : Nat} {cs l : List SV} [hT : TyAgg P T n] (hx : ev e x = some (.ptr o 0 0)) (hy : ev e y = some (.agg l)) (ho : H[o]? = some (.box cs)) (hl : cs.length = l.length) (hn : l.length = n)
    (hp : l.all SV.plain = true) [h2 : LSet H o (.box l) H'] (k : K (.val undef) H') : OpDo P r ⟨d, .store T x y, t, ps, af, g⟩ e H K :=
  do_store_boxagg hx hy ho (by omega) hn (allPlain hp) (by
    have : cs.take 0 ++ l ++ cs.drop (0 + l.length) = l := by rw [Nat.zero_add, ← hl]; simp
    rw [this, h2.eq]; exact k)
theorem n_store_arr {T : TypeId} {x y : Operand} {o i f : Nat} {α : Type} {sz : Nat} {enc : α → List Value} {dd : α} {xs : List α} {v : Value} {z : α} [hT : TyOne P T] (hx : ev e x = some (.ptr o i f)) (hy : ev e y = some (.val v)) (ho : H[o]? = some (.arr α true sz enc dd xs))
    (hi : i < xs.length) (hz : (enc (xs.getD i dd)).set f v = enc z) (hf : f < sz) (hp : v.oneCell' = true) [h2 : LSet H o (.arr α true sz enc dd (xs.set i z)) H'] (k : K (.val undef) H') : OpDo P r ⟨d, .store T x y, t, ps, af, g⟩ e H K :=
  do_store_arr hx hy ho hi hz hf hp (by rw [h2.eq]; exact k)
theorem n_box_agg {T : TypeId} {x : Operand} {l : List SV} {n : Nat} (hx : ev e x = some (.agg l)) (hn : H.length = n) [h2 : LApp H [.box l] H'] (k : K (.ptr n 0 0) H') : OpDo P r ⟨d, .box T x, t, ps, af, g⟩ e H K :=
  do_box hx (by rw [hn]; show K _ (H ++ [.box l]); rw [h2.eq]; exact k)
theorem n_box {T : TypeId} {x : Operand} {s : SV} {n : Nat} (hx : ev e x = some s) (hs : s.cells = [s]) (hn : H.length = n) [h2 : LApp H [.box [s]] H'] (k : K (.ptr n 0 0) H') : OpDo P r ⟨d, .box T x, t, ps, af, g⟩ e H K :=
  do_box hx (by rw [hn, hs, h2.eq]; exact k)
class TyZeroC (P : Program) (t : TypeId) (cs : outParam (List SV)) : Prop where
  out : ∃ z, TyZero P t z ∧ (SV.val z).cells = cs
theorem n_alloc {T : TypeId} {cs : List SV} {n : Nat} [hT : TyZeroC P T cs] (hn : H.length = n) [h2 : LApp H [.box cs] H'] (k : K (.ptr n 0 0) H') : OpDo P r ⟨d, .alloc T, t, ps, af, g⟩ e H K := by
  obtain ⟨z, h1, h3⟩ := hT.out
  exact do_alloc (hT := h1) (by rw [hn, h3, h2.eq]; exact k)
theorem n_make {T : TypeId} {x y : Operand} {el : TypeId} {n by_ nm : Nat} {z : List Value} {k0 k1 : IntKind} {c : Int} (α : Type) (enc : α → List Value) (dd : α) [hT : TySl P T el n by_ z] (hx : ev e x = some (.val (.int k0 c))) (hy : ev e y = some (.val (.int k1 c)))
    (hz : enc dd = z) (hsz : ∀ q, (enc q).length = n) (hone : ∀ q, ∀ v ∈ enc q, v.oneCell' = true) (h0 : 0 ≤ c) (hb : (by_ : Int) * c ≤ 281474976710656) (hc : c ≤ 9223372036854775807) (hn : H.length = nm)
    [h2 : LApp H [.arr α true n enc dd (List.replicate c.toNat dd)] H'] (k : K (.slc nm 0 c.toNat (some c.toNat)) H') : OpDo P r ⟨d, .makeSlice T x y, t, ps, af, g⟩ e H K :=
  do_make α enc dd hx hy hz hsz hone h0 hb hc (by rw [hn, h2.eq]; exact k)
theorem n_bs {T el : TypeId} {n by_ len nm : Nat} {z : List Value} {parts : Array (Nat × Operand)} {pv : List (Nat × SV)} (α : Type) (enc : α → List Value) (dd : α) (xs : List α) [hT : TySl P T el n by_ z] (hp : evsI e parts.toList = some pv)
    (hf : fillSV ((List.range len).map fun i => (i * n, n)) (((List.range (len * n)).map fun j => z.getD (j % n) default).map .val) pv = some ((xs.flatMap enc).map .val)) (hlen : xs.length = len) (hidx : pv.all (fun p => Nat.blt p.1 len) = true) (hsmall : Nat.ble (len * n) 16777216 = true)
    (hsz : ∀ q, (enc q).length = n) (hone : ∀ q, ∀ v ∈ enc q, v.oneCell' = true) (hn : H.length = nm)
    [h2 : LApp H [.arr α true n enc dd xs] H'] (k : K (.slc nm 0 len (some len)) H') : OpDo P r ⟨d, .buildSlice T len parts, t, ps, af, g⟩ e H K :=
  do_bs α enc dd xs hp hf hlen hidx hsmall hsz hone (by rw [hn, h2.eq]; exact k)
theorem n_append_own {T rt : TypeId} {x y : Operand} {el : TypeId} {n by_ nm : Nat} {z : List Value} {o off len o2 off2 len2 : Nat} {cap cap2 : Option Nat} [hT : TySl P T el n by_ z] (hx : ev e x = some (.slc o off len cap)) (hy : ev e y = some (.slc o2 off2 len2 cap2))
    {α : Type} {own2 : Bool} {sz : Nat} {enc : α → List Value} {dd dd2 : α} {xs ys : List α} (ho : H[o]? = some (.arr α true sz enc dd xs)) (ho2 : H[o2]? = some (.arr α own2 sz enc dd2 ys)) (hn : sz = n)
    (h1 : off + len ≤ xs.length) (h2 : off2 + len2 ≤ ys.length) (hb : (len + len2) * by_ ≤ 140737488355328) (h63 : ((len + len2 : Nat) : Int) ≤ 9223372036854775807) (hnm : H.length = nm)
    [g1 : LSet H o .dead H1] [g2 : LApp H1 [.arr α true sz enc dd (cut xs off len ++ cut ys off2 len2)] H'] (k : K (.slc nm 0 (len + len2) none) H') : OpDo P r ⟨d, .call ⟨.builtin .append, #[x, y], #[T, T]⟩, rt, ps, af, g⟩ e H K :=
  do_append_own hx hy ho ho2 hn h1 h2 hb h63 (by rw [hnm, g1.eq, g2.eq]; exact k)
theorem n_load_boxagg {T : TypeId} {x : Operand} {o f n : Nat} {cs : List SV} (l : List SV) [hT : TyAgg P T n] (hx : ev e x = some (.ptr o 0 f)) (ho : H[o]? = some (.box cs)) (hf : f + n ≤ cs.length) (hl : (cs.drop f).take n = l) (k : K (.agg l) H) :
    OpDo P r ⟨d, .load T x, t, ps, af, g⟩ e H K := do_load_boxagg hx ho hf (by rw [hl]; exact k)
theorem n_load_arragg {T : TypeId} {x : Operand} {o i n : Nat} {α : Type} {own : Bool} {sz : Nat} {enc : α → List Value} {dd : α} {xs : List α} (l : List SV) [hT : TyAgg P T n] (hx : ev e x = some (.ptr o i 0)) (ho : H[o]? = some (.arr α own sz enc dd xs))
    (hn : n = sz) (hi : i < xs.length) (hl : (enc (xs.getD i dd)).map .val = l) (k : K (.agg l) H) : OpDo P r ⟨d, .load T x, t, ps, af, g⟩ e H K := do_load_arragg hx ho hn hi (by rw [hl]; exact k)
theorem n_callN {f : Operand} {args : Array Operand} {ats : Array TypeId} {g0 : FuncId} {fs cs ag args0 : List SV} {H0 N : List SO} {X : SV} [FnOK P g0] (hf : ev e f = some (.func g0 fs cs)) (ha : evs e args.toList = some ag)
    (T : Tri P g0 args0 H0 fun s H1 => s = X ∧ H1 = H0 ++ N) (σ : List Nat) (hH : ShH (nm σ H.length) H σ H0) (hro : noOwn H0 = true) (hN : allOwn N = true) (hargs : fs ++ ag ++ cs = rens (nm σ H.length) args0)
    {X' : SV} {N' : List SO} (hX : X.ren (nm σ H.length) = X') (hN' : N.map (SO.ren (nm σ H.length)) = N') [h2 : LApp H N' H'] (k : K X' H') : OpDo P r ⟨d, .call ⟨.value f, args, ats⟩, t, ps, af, g⟩ e H K :=
  do_callN hf ha T σ hH hro hN hargs hX hN' (by rw [h2.eq]; exact k)

/-! In the growing part of a region that draws its order: the name given, the heap left as it is. -/
theorem g_alloc {T : TypeId} {cs : List SV} {n : Nat} [hT : TyZeroC P T cs] (hn : H.length = n) (k : K (.ptr n 0 0) (H ++ [.box cs])) : OpDo P r ⟨d, .alloc T, t, ps, af, g⟩ e H K := by
  obtain ⟨z, h1, h3⟩ := hT.out
  exact do_alloc (hT := h1) (by rw [hn, h3]; exact k)
theorem g_make {T : TypeId} {x y : Operand} {el : TypeId} {n by_ nm : Nat} {z : List Value} {k0 k1 : IntKind} {c : Int} (α : Type) (enc : α → List Value) (dd : α) [hT : TySl P T el n by_ z] (hx : ev e x = some (.val (.int k0 c))) (hy : ev e y = some (.val (.int k1 c)))
    (hz : enc dd = z) (hsz : ∀ q, (enc q).length = n) (hone : ∀ q, ∀ v ∈ enc q, v.oneCell' = true) (h0 : 0 ≤ c) (hb : (by_ : Int) * c ≤ 281474976710656) (hc : c ≤ 9223372036854775807) (hn : H.length = nm)
    (k : K (.slc nm 0 c.toNat (some c.toNat)) (H ++ [.arr α true n enc dd (List.replicate c.toNat dd)])) : OpDo P r ⟨d, .makeSlice T x y, t, ps, af, g⟩ e H K := do_make α enc dd hx hy hz hsz hone h0 hb hc (by rw [hn]; exact k)
theorem g_bs {T el : TypeId} {n by_ len nm : Nat} {z : List Value} {parts : Array (Nat × Operand)} {pv : List (Nat × SV)} (α : Type) (enc : α → List Value) (dd : α) (xs : List α) [hT : TySl P T el n by_ z] (hp : evsI e parts.toList = some pv)
    (hf : fillSV ((List.range len).map fun i => (i * n, n)) (((List.range (len * n)).map fun j => z.getD (j % n) default).map .val) pv = some ((xs.flatMap enc).map .val)) (hlen : xs.length = len) (hidx : pv.all (fun p => Nat.blt p.1 len) = true) (hsmall : Nat.ble (len * n) 16777216 = true)
    (hsz : ∀ q, (enc q).length = n) (hone : ∀ q, ∀ v ∈ enc q, v.oneCell' = true) (hn : H.length = nm)
    (k : K (.slc nm 0 len (some len)) (H ++ [.arr α true n enc dd xs])) : OpDo P r ⟨d, .buildSlice T len parts, t, ps, af, g⟩ e H K := do_bs α enc dd xs hp hf hlen hidx hsmall hsz hone (by rw [hn]; exact k)
def andI (k : IntKind) (x y : Int) : Int := k.wrap (BitVec.ofInt k.bits x &&& BitVec.ofInt k.bits y).toNat
end ops

section rules
variable {P : Program} {C : Cx} {e : Env} {H H1 H' : List SO} {K : Exit → Env → List SO → Prop}
theorem n_ghost {c : Code} (α : Type) (sz : Nat) (enc : α → List Value) (dd : α) (k1 : ∀ x, (enc x).length = sz) (k2 : ∀ x, ∀ v ∈ enc x, v.oneCell' = true) [h2 : LApp H [.arr α true sz enc dd []] H'] (h : W P C c e H' K) : W P C c e H K :=
  w_ghost k1 k2 (by rw [h2.eq]; exact h)
theorem n_nilB {c : Code} (b f o off : Nat) {cs cs' : List SV} (hb : H[b]? = some (.box cs)) (hf : cs[f]? = some (.val (.slice none 0 0))) [h1 : LSet cs f (.slc o off 0 none) cs'] [h2 : LSet H b (.box cs') H'] (h : W P C c e H' K) : W P C c e H K :=
  w_nilB b f o off hb hf (by rw [h1.eq, h2.eq]; exact h)
/-- What is known behind the growing part, written out. -/
class HR (H0 : List SO) (acc : List Ent) (H' : outParam (List SO)) : Prop where
  eq : heapR H0 always acc = H'
instance {H0 : List SO} : HR H0 [] H0 := ⟨rfl⟩
instance {H0 H' : List SO} {j : Nat} {d : Option Tmp} {V : SV} {acc : List Ent} [h : HR H0 acc H'] : HR H0 (⟨j, d, V, []⟩ :: acc) H' := ⟨h.eq⟩
instance {H0 H1 H' : List SO} {j : Nat} {d : Option Tmp} {V : SV} {acc : List Ent} {y : SO} {l : List SO} [h : HR H0 acc H1] [h2 : LApp H1 (y :: l) H'] : HR H0 (⟨j, d, V, y :: l⟩ :: acc) H' := ⟨by
  rw [← h2.eq, ← h.eq]; rfl⟩
class ER (e0 : Env) (acc : List Ent) (e' : outParam Env) : Prop where
  eq : envR e0 always acc = e'
instance {e0 : Env} : ER e0 [] e0 := ⟨rfl⟩
instance {e0 e' : Env} {j d : Nat} {V : SV} {N : List SO} {acc : List Ent} [h : ER e0 acc e'] : ER e0 (⟨j, some d, V, N⟩ :: acc) ((d, V) :: e') := ⟨by rw [← h.eq]; rfl⟩
theorem n_done {ops : Array Oper} {l : List Oper} {acc : List Ent} {e' : Env} [h1 : ER e acc e'] [h2 : HR H acc H'] (h : RW P C ops l e' H' K) : RA P C ops e H K [] l acc := ra_done (by rw [h1.eq, h2.eq]; exact h)

theorem cap_none {o off len : Nat} {cap : Option Nat} (ρ : Rho) (v : Value) (h : Rep ρ (.slc o off len cap) v) : Rep ρ (.slc o off len none) v := by
  simp only [Rep] at h ⊢
  rcases h with ⟨I, c, h1, h2, h3, h4, h5⟩ | ⟨h1, h2, h3⟩
  · exact .inl ⟨I, c, h1, h2, h3, h4, fun k hk => by cases hk⟩
  · exact .inr ⟨h1, h2, fun k hk => by cases hk⟩
end rules
end Go.Sx

set_option linter.unusedVariables false
namespace Go.Sx
open Go Go.RowKit

theorem cons_congr {α : Type} {a b : α} {l m : List α} (h : a = b) (k : l = m) : a :: l = b :: m := by rw [h, k]
theorem box_congr {a b : List SV} (h : a = b) : SO.box a = SO.box b := by rw [h]
theorem cut_full {α : Type} {xs : List α} {n : Nat} (h : n = xs.length) : cut xs 0 n = xs := by subst h; simp [cut]
theorem okNew_tail {N : List SO} (h : allOwn N = true) : okNew [] N := okNew_ro (H0 := []) rfl h

section ops
variable {P : Program} {r : Option Nat} {d : Option Tmp} {t : TypeId} {ps : String} {af : Array Edge} {g : Option (Nat × Bool)} {e : Env} {H H1 H' : List SO} {K : SV → List SO → Prop}
theorem n_app_own {T rt : TypeId} {x y : Operand} {el : TypeId} {n by_ nm : Nat} {z : List Value} {o len o2 len2 : Nat} {cap cap2 : Option Nat} [hT : TySl P T el n by_ z] (hx : ev e x = some (.slc o 0 len cap)) (hy : ev e y = some (.slc o2 0 len2 cap2))
    {α : Type} {own2 : Bool} {sz : Nat} {enc : α → List Value} {dd dd2 : α} {xs ys : List α} (ho : H[o]? = some (.arr α true sz enc dd xs)) (ho2 : H[o2]? = some (.arr α own2 sz enc dd2 ys)) (hn : sz = n)
    (h1 : len = xs.length) (h2 : len2 = ys.length) (hb : (len + len2) * by_ ≤ 140737488355328) (h63 : ((len + len2 : Nat) : Int) ≤ 9223372036854775807) (hnm : H.length = nm)
    [g1 : LSet H o .dead H1] [g2 : LApp H1 [.arr α true sz enc dd (xs ++ ys)] H'] (k : K (.slc nm 0 (len + len2) none) H') : OpDo P r ⟨d, .call ⟨.builtin .append, #[x, y], #[T, T]⟩, rt, ps, af, g⟩ e H K :=
  do_append_own hx hy ho ho2 hn (by omega) (by omega) hb h63 (by rw [hnm, g1.eq, cut_full h1, cut_full h2, g2.eq]; exact k)
/-- A call that writes into what is the caller's own. -/
theorem n_callW {f : Operand} {args : Array Operand} {ats : Array TypeId} {g0 : FuncId} {fs cs ag args0 : List SV} {H0 Y : List SO} {X : SV} [FnOK P g0] (hf : ev e f = some (.func g0 fs cs)) (ha : evs e args.toList = some ag)
    (T : Tri P g0 args0 H0 fun s H1 => s = X ∧ H1 = Y) (σ : List Nat) (hH : ShH (nm σ H.length) H σ H0) (hsep : sep σ (owns H0) = true) (hargs : fs ++ ag ++ cs = rens (nm σ H.length) args0) (hok : okNew H0 Y)
    {X' : SV} {H' : List SO} (hX : X.ren (nm σ H.length) = X') (hH' : upd (nm σ H.length) H σ H0 Y = H') (k : K X' H') : OpDo P r ⟨d, .call ⟨.value f, args, ats⟩, t, ps, af, g⟩ e H K := by
  refine do_call hf ha (T.frame σ hH hsep hargs ?_)
  rintro s H1 ⟨rfl, rfl⟩
  exact ⟨hok, by rw [hX, hH']; exact k⟩
theorem g_callN {f : Operand} {args : Array Operand} {ats : Array TypeId} {g0 : FuncId} {fs cs ag args0 : List SV} {H0 N : List SO} {X : SV} [FnOK P g0] (hf : ev e f = some (.func g0 fs cs)) (ha : evs e args.toList = some ag)
    (T : Tri P g0 args0 H0 fun s H1 => s = X ∧ H1 = H0 ++ N) (σ : List Nat) (hH : ShH (nm σ H.length) H σ H0) (hro : noOwn H0 = true) (hN : allOwn N = true) (hargs : fs ++ ag ++ cs = rens (nm σ H.length) args0)
    {X' : SV} {N' : List SO} (hX : X.ren (nm σ H.length) = X') (hN' : N.map (SO.ren (nm σ H.length)) = N') (k : K X' (H ++ N')) : OpDo P r ⟨d, .call ⟨.value f, args, ats⟩, t, ps, af, g⟩ e H K :=
  do_callN hf ha T σ hH hro hN hargs hX hN' k
theorem do_shr1 {xt yt : TypeId} {x y : Operand} {k0 k1 : IntKind} {a0 : Int} (hx : ev e x = some (.val (.int k0 a0))) (hy : ev e y = some (.val (.int k1 1))) (h0 : 0 ≤ a0) (k : K (.val (.int k0 (a0 / 2))) H) :
    OpDo P r ⟨d, .binOp .shr xt x y yt, t, ps, af, g⟩ e H K :=
  .pure (by simp) (fun ρ a w he hs => by
    have h1 := he.ev hx; have h2 := he.ev hy; simp only [Rep] at h1 h2
    refine ⟨.int k0 (a0 / 2), ?_, by simp only [Rep]⟩
    have e1 : a0.fdiv 2 = a0 / 2 := (Int.fdiv_eq_ediv_of_nonneg a0 (by omega))
    have e2 : min 1 k0.bits = 1 := by cases k0 <;> rfl
    simp [execOp, h1, h2, eqGuard, binOp, Op.shift, e2, e1]) k
end ops
end Go.Sx

set_option linter.unusedVariables false
set_option linter.unusedSimpArgs false
namespace Go.Sx
open Go Go.RowKit

def mapQ (kk : IntKind) (keys : List Int) (vs : List Value) (ob : Obj) : Prop :=
  ∃ (es : Array MapEntry) (clock : Nat), ob = .map es clock ∧ es.toList.map (·.key) = keys.map (Value.int kk) ∧ es.toList.map (·.val) = vs
class TyMap (P : Program) (t : TypeId) (kk : outParam IntKind) (z : outParam Value) : Prop where
  out : ∃ k el, P.underlying t = some (.map k el) ∧ P.underlying k = some (.int kk) ∧ ∃ i, P.info? el = some i ∧ i.zero = some z

section ops
variable {P : Program} {r : Option Nat} {d : Option Tmp} {t : TypeId} {ps : String} {af : Array Edge} {g : Option (Nat × Bool)} {e : Env} {H H1 H' : List SO} {K : SV → List SO → Prop}
end ops
section ops
variable {P : Program} {r : Option Nat} {d : Option Tmp} {t : TypeId} {ps : String} {af : Array Edge} {g : Option (Nat × Bool)} {e : Env} {H H1 H' : List SO} {K : SV → List SO → Prop}
theorem g_app_e {T rt : TypeId} {x y : Operand} {el : TypeId} {n by_ nm : Nat} {z : List Value} {o o2 len2 : Nat} {cap2 : Option Nat} [hT : TySl P T el n by_ z] (hx : ev e x = some (.slc o 0 0 (some 0))) (hy : ev e y = some (.slc o2 0 len2 cap2))
    {α : Type} {own own2 : Bool} {sz : Nat} {enc : α → List Value} {dd dd2 : α} {xs ys : List α} (ho : H[o]? = some (.arr α own sz enc dd xs)) (ho2 : H[o2]? = some (.arr α own2 sz enc dd2 ys)) (hn : sz = n)
    (h2 : len2 = ys.length) (hb : len2 * by_ ≤ 140737488355328) (h63 : ((len2 : Nat) : Int) ≤ 9223372036854775807) (hnm : H.length = nm)
    (k : K (.slc nm 0 len2 none) (H ++ [.arr α true sz enc dd ys])) : OpDo P r ⟨d, .call ⟨.builtin .append, #[x, y], #[T, T]⟩, rt, ps, af, g⟩ e H K :=
  do_append_new hx hy ho ho2 hn (by omega) (by omega) (.inl rfl) (by rw [Nat.zero_add]; exact hb) (by rw [Nat.zero_add]; exact h63) (by
    have e1 : cut xs 0 0 = [] := by simp [cut]
    rw [hnm, e1, cut_full h2, Nat.zero_add, List.nil_append]; exact k)
theorem n_app_e {T rt : TypeId} {x y : Operand} {el : TypeId} {n by_ nm : Nat} {z : List Value} {o o2 len2 : Nat} {cap2 : Option Nat} [hT : TySl P T el n by_ z] (hx : ev e x = some (.slc o 0 0 (some 0))) (hy : ev e y = some (.slc o2 0 len2 cap2))
    {α : Type} {own own2 : Bool} {sz : Nat} {enc : α → List Value} {dd dd2 : α} {xs ys : List α} (ho : H[o]? = some (.arr α own sz enc dd xs)) (ho2 : H[o2]? = some (.arr α own2 sz enc dd2 ys)) (hn : sz = n)
    (h2 : len2 = ys.length) (hb : len2 * by_ ≤ 140737488355328) (h63 : ((len2 : Nat) : Int) ≤ 9223372036854775807) (hnm : H.length = nm)
    [g2 : LApp H [.arr α true sz enc dd ys] H'] (k : K (.slc nm 0 len2 none) H') : OpDo P r ⟨d, .call ⟨.builtin .append, #[x, y], #[T, T]⟩, rt, ps, af, g⟩ e H K :=
  g_app_e hx hy ho ho2 hn h2 hb h63 hnm (by rw [g2.eq]; exact k)
end ops
section rules
variable {P : Program} {C : Cx} {e : Env} {H : List SO} {K : Exit → Env → List SO → Prop}
theorem rw_cap {ops : Array Oper} {rest : List Oper} (t : Nat) {o off len : Nat} {cap : Option Nat} (ht : e.get t = some (.slc o off len cap)) (k : RW P C ops rest ((t, .slc o off len none) :: e) H K) : RW P C ops rest e H K := fun a w hat => by
  obtain ⟨ρ, he, h1, h2, q1, q2⟩ := hat
  refine k a w ⟨ρ, fun u v hu => ?_, h1, h2, q1, q2⟩
  rw [Env.get_cons] at hu
  split at hu
  · rename_i hut
    subst hut
    simp only [Option.some.injEq] at hu
    subst hu
    exact cap_none ρ _ (he _ _ ht)
  · exact he u v hu
/-- What is forgotten. -/
theorem w_env {c : Code} (e' : Env) (h : ShE id e e') (k : W P C c e' H K) : W P C c e H K := fun a w hat => by
  obtain ⟨ρ, he, hs, hev, q1, q2⟩ := hat
  refine k a w ⟨ρ, fun u s hu => ?_, hs, hev, q1, q2⟩
  have := h.get u s hu
  rw [svId] at this
  exact he u s this
/-- A guarded operation whose guard was not reached. -/
theorem rw_gu {ops : Array Oper} {o : Oper} {rest : List Oper} (t j gd : Nat) (want : Bool) (hd : o.dst = some t) (hg : o.guard = some (j, want)) (hj : (ops[j]?).bind (·.dst) = some gd) (hb : e.get gd = some (.val undef)) (hgd : Nat.blt gd C.nt = true) (ht : Nat.blt t C.nt = true)
    (h : RW P C ops rest ((t, .val undef) :: e) H K) : RW P C ops (o :: rest) e H K := fun a w hat => by
  obtain ⟨ρ, he, hs, hev, hsz, hdf⟩ := hat
  have hv := he gd _ hb
  simp only [Rep] at hv
  have hlt : gd < a.tmps.size := by rw [hsz]; simpa using hgd
  have hy : yielded ops a.tmps j = none := by
    simp only [yielded, hj, Option.bind_some]
    rw [Array.getElem?_eq_getElem hlt]
    rw [Array.getD, dif_pos hlt] at hv
    have hv' : a.tmps[gd] = undef := hv
    rw [hv']; rfl
  simp only [wpListIn, Region.wanted, hg, hy]
  have : ((none : Option Bool) == some want) = false := rfl
  simp only [this, Bool.false_eq_true, if_false]
  refine ⟨fun _ _ => trivial, ?_⟩
  have hat' := at_put (d := o.dst) (v := undef) he hsz hdf hev (by rw [hd]; exact ht) (s := .val undef) (by simp only [Rep]) hs (Ev.refl _ _ _)
  rw [hd] at hat' ⊢
  exact h _ _ hat'
end rules
end Go.Sx

set_option linter.unusedVariables false
set_option linter.unusedSimpArgs false
namespace Go.Sx
open Go Go.RowKit

/-- Let the operations js wait for z too. -/
def addE (z : Nat) (js : List Nat) : Nat → List Oper → List Oper
  | _, [] => []
  | i, o :: l => (bif js.elem i then { o with after := o.after.push ⟨z, .data⟩ } else o) :: addE z js (i + 1) l
theorem addE_len (z : Nat) (js : List Nat) : ∀ (i : Nat) (l : List Oper), (addE z js i l).length = l.length
  | _, [] => rfl
  | i, o :: l => by simp [addE, addE_len z js (i + 1) l]
theorem addE_get (z : Nat) (js : List Nat) : ∀ (i : Nat) (l : List Oper) (k : Nat), (addE z js i l)[k]? = (l[k]?).map fun o => bif js.elem (i + k) then { o with after := o.after.push ⟨z, .data⟩ } else o
  | _, [], k => by simp [addE]
  | i, o :: l, 0 => by simp [addE]
  | i, o :: l, k + 1 => by
    simp only [addE, List.getElem?_cons_succ]
    rw [addE_get z js (i + 1) l k]
    have : i + 1 + k = i + (k + 1) := by omega
    rw [this]
/-- A part of a result, taken out. -/
def isExtract (o : Oper) : Bool := o.guard.isNone && (match o.op with | .extract _ _ => true | _ => false)
/-- May z be taken first, ahead of the operations js? -/
def okLate (z : Nat) (js : List Nat) (L : List Oper) : Bool :=
  match L[z]? with
  | some oz => isExtract oz && !js.elem z &&
    js.all (fun j => match L[j]? with | some oj => oz.after.toList.all (fun e => !Region.binds .any e || oj.after.toList.any (fun e' => Region.binds .any e' && Nat.beq e'.on e.on)) | none => false) &&
    (List.range L.length).all (fun j => match L[j]? with | some oj => Nat.beq j z || oj.after.toList.any (fun e => Region.binds .any e && Nat.beq e.on z) || oz.after.toList.any (fun e => Region.binds .any e && Nat.beq e.on j) || oz.apart L.toArray oj | none => true) &&
    Region.noSelect L.toArray
  | none => false

section
variable {P : Program} {F : Fence} {n : Nat} {Q : Exit → Act → World → Prop}
theorem same_op {z : Nat} {js : List Nat} {L : List Oper} {i : Nat} {K : Act → World → Prop} {a : Act} {w : World} (h : wpOpIn F n P (addE z js 0 L).toArray Q i K a w) : wpOpIn F n P L.toArray Q i K a w := by
  have hy : ∀ (t : Array Value) j, yielded (addE z js 0 L).toArray t j = yielded L.toArray t j := by
    intro t j
    simp only [yielded, List.getElem?_toArray, addE_get]
    cases L[j]? with
    | none => rfl
    | some o =>
      simp only [Option.map_some, Option.bind_some]
      cases List.elem (0 + j) js <;> rfl
  unfold wpOpIn at *
  simp only [List.getElem?_toArray, addE_get] at h ⊢
  cases ho : L[i]? with
  | none => rw [ho] at h; exact h
  | some o =>
    rw [ho] at h
    simp only [Option.map_some] at h ⊢
    have hw : ∀ (x : Oper), x.guard = o.guard → Region.wanted x (yielded (addE z js 0 L).toArray a.tmps) = Region.wanted o (yielded L.toArray a.tmps) := by
      intro x hx
      simp only [Region.wanted, hx]
      cases o.guard with
      | none => rfl
      | some g => simp only [hy]
    cases hj : List.elem (0 + i) js with
    | false =>
      rw [hj] at h
      simp only [cond_false] at h
      rw [hw o rfl] at h
      exact h
    | true =>
      rw [hj] at h
      simp only [cond_true] at h
      rw [hw { o with after := o.after.push ⟨z, .data⟩ } rfl] at h
      exact h

theorem extract_yields {ops : Array Oper} {o : Oper} (hex : isExtract o = true) (hr : F.round = none) {i : Nat} (hi : ops[i]? = some o) {K : Act → World → Prop} {a : Act} {w : World} (h : wpOpIn F n P ops Q i K a w) :
    ∃ v, YieldsFenced P ops o v a ∧ K (a.put o.dst v) w := by
  simp only [isExtract, Bool.and_eq_true, Option.isNone_iff_eq_none] at hex
  obtain ⟨hg, hop⟩ := hex
  have hw : ∀ t, Region.wanted o (yielded ops t) = true := fun t => by simp only [Region.wanted, hg]
  unfold wpOpIn at h
  rw [hi] at h
  simp only [hw, if_true] at h
  obtain ⟨_, h⟩ := h
  rw [hr, Oper.semAt_none] at h
  have hab : ∀ w, o.about P w a.eval = none := by
    intro w
    unfold Oper.about
    cases ho : o.op <;> simp only [ho] at hop ⊢
    all_goals first | rfl | cases hop
  cases ho : o.op with
  | extract x ix =>
    have hrun : ∀ w, (execOp a.eval o).run P w = ((Instr.extract (a.eval x) ix).run P w).andThen (fun v w => (Result.ok (Next.value v) w : Result Next)) := by
      intro w
      obtain ⟨d, op, t, ps, af, g⟩ := o
      simp only at ho
      subst ho
      simp only [execOp, Sem.run_bind]
      cases (Instr.extract (a.eval x) ix).run P w <;> simp [Result.andThen]
    rw [hrun] at h
    unfold Instr.extract at h hrun
    split at h
    · rename_i vs hvs
      split at h
      · rename_i v hv
        simp only [Sem.run_pure, Result.andThen_ok, Oper.uponIn] at h
        refine ⟨v, ⟨.inl ⟨hw _, fun w => ?_⟩, hab⟩, h⟩
        rw [hrun, hvs]
        simp only [hv, Sem.run_pure, Result.andThen_ok]
      · simp [stuck, Sem.run, Result.andThen, Oper.uponIn] at h
    · simp [stuck, Sem.run, Result.andThen, Oper.uponIn] at h
  | _ => rw [ho] at hop; cases hop

theorem late_sound {z : Nat} {js : List Nat} {L : List Oper} (hr : F.round = none) (hok : okLate z js L = true) (hQ : ∀ c a w, ¬ Q (.panic c) a w) :
    ∀ (fuel : Nat) (listed : Array Bool) (a : Act) (w : World), listed.size = L.length → wpAnyIn F n P .any (addE z js 0 L).toArray Q fuel listed a w → wpAnyIn F n P .any L.toArray Q fuel listed a w := by
  unfold okLate at hok
  cases hz : L[z]? with
  | none => rw [hz] at hok; cases hok
  | some oz =>
    rw [hz] at hok
    simp only [Bool.and_eq_true] at hok
    obtain ⟨⟨⟨⟨hex, hzj⟩, hdep⟩, hap⟩, hsel⟩ := hok
    have hzj' : List.elem z js = false := by simpa using hzj
    -- what is ready
    have back : ∀ (listed : Array Bool) (i : Nat), i ∈ Region.ready .any (addE z js 0 L).toArray listed → i ∈ Region.ready .any L.toArray listed := by
      intro listed i hi
      rw [mem_ready] at hi ⊢
      obtain ⟨h0, o, ho, hall⟩ := hi
      rw [List.getElem?_toArray, addE_get] at ho
      obtain ⟨o', ho', he⟩ := Option.map_eq_some_iff.1 ho
      refine ⟨h0, o', by rw [List.getElem?_toArray]; exact ho', fun e hem hb => hall e ?_ hb⟩
      subst he
      cases List.elem (0 + i) js with
      | false => exact hem
      | true => simp only [cond_true]; exact Array.mem_push_of_mem _ hem
    have fwd : ∀ (listed : Array Bool), listed.size = L.length → ∀ (i : Nat), i ∈ Region.ready .any L.toArray listed → i ∈ Region.ready .any (addE z js 0 L).toArray listed ∨ (z ∈ Region.ready .any L.toArray listed ∧ z ∈ Region.ready .any (addE z js 0 L).toArray listed) := by
      intro listed hsz i hi
      have hi0 := hi
      rw [mem_ready] at hi
      obtain ⟨h0, o, ho, hall⟩ := hi
      rw [List.getElem?_toArray] at ho
      cases hj : List.elem i js with
      | false =>
        left
        rw [mem_ready]
        refine ⟨h0, o, ?_, hall⟩
        rw [List.getElem?_toArray, addE_get, ho, Nat.zero_add, hj]; rfl
      | true =>
        cases hlz : listed.getD z false with
        | true =>
          left
          rw [mem_ready]
          refine ⟨h0, { o with after := o.after.push ⟨z, .data⟩ }, ?_, fun e hem hb => ?_⟩
          · rw [List.getElem?_toArray, addE_get, ho, Nat.zero_add, hj]; rfl
          · rcases Array.mem_push.1 hem with hem | hem
            · exact hall e hem hb
            · subst hem; exact hlz
        | false =>
          rcases Nat.lt_or_ge z listed.size with hlt | hge
          · right
            have hdz : ∀ e ∈ oz.after, Region.binds .any e = true → listed.getD e.on false = true := by
              intro e hem hb
              have h1 := (List.all_eq_true.1 hdep) i (by simpa using hj)
              rw [ho] at h1
              have h2 := (List.all_eq_true.1 h1) e (by simpa using hem)
              rw [hb] at h2
              simp only [Bool.not_true, Bool.false_or, List.any_eq_true, Bool.and_eq_true] at h2
              obtain ⟨e', q1, q2, q3⟩ := h2
              rw [← Nat.eq_of_beq_eq_true q3]
              exact hall e' (by simpa using q1) q2
            have hlz' : listed.getD z true = false := by
              simp only [Array.getD, hlt, dite_true] at hlz ⊢
              exact hlz
            refine ⟨mem_ready.2 ⟨hlz', oz, by rw [List.getElem?_toArray]; exact hz, hdz⟩, mem_ready.2 ⟨hlz', oz, ?_, hdz⟩⟩
            rw [List.getElem?_toArray, addE_get, hz, Nat.zero_add, hzj']; rfl
          · exfalso
            have := (List.getElem?_eq_some_iff.1 hz).1
            omega
    intro fuel
    induction fuel with
    | zero =>
      intro listed a w hsz H
      obtain ⟨H1, H2⟩ := H
      refine ⟨?_, H2⟩
      cases hrd : Region.ready .any L.toArray listed with
      | nil => rfl
      | cons i rs =>
        exfalso
        have hi : i ∈ Region.ready .any L.toArray listed := by rw [hrd]; simp
        rcases fwd listed hsz i hi with h | ⟨_, h⟩
        · rw [H1] at h; cases h
        · rw [H1] at h; cases h
    | succ fuel ih =>
      intro listed a w hsz H
      by_cases hz' : z ∈ Region.ready .any (addE z js 0 L).toArray listed
      · have hzL := back listed z hz'
        have hz1 := same_op (H.2 z hz')
        obtain ⟨v, hy, hK⟩ := extract_yields hex hr (by rw [List.getElem?_toArray]; exact hz) hz1
        refine wpAnyIn_first hr (by rw [List.getElem?_toArray]; exact hz) (Region.noSelect_spec hsel) (fun c a w h => (hQ c _ w h).elim) fuel listed a w ?_ hzL hy (ih _ _ _ (by simpa using hsz) hK)
        intro j oj hoj hjz hun hno
        rw [List.getElem?_toArray] at hoj
        have hlt : j < L.length := (List.getElem?_eq_some_iff.1 hoj).1
        have h1 := (List.all_eq_true.1 hap) j (List.mem_range.2 hlt)
        rw [hoj] at h1
        simp only [Bool.or_eq_true] at h1
        rcases h1 with ((h1 | h1) | h1) | h1
        · exact (hjz (Nat.eq_of_beq_eq_true h1)).elim
        · rw [List.any_eq_true] at h1
          obtain ⟨e, q1, q2⟩ := h1
          rw [Bool.and_eq_true] at q2
          exact (hno e (by simpa using q1) q2.1 (Nat.eq_of_beq_eq_true q2.2)).elim
        · exfalso
          rw [List.any_eq_true] at h1
          obtain ⟨e, q1, q2⟩ := h1
          rw [Bool.and_eq_true] at q2
          obtain ⟨_, o2, ho2, hall⟩ := mem_ready.1 hzL
          rw [List.getElem?_toArray, hz, Option.some.injEq] at ho2
          subst ho2
          have h3 := hall e (by simpa using q1) q2.1
          rw [Nat.eq_of_beq_eq_true q2.2] at h3
          have hlt2 : j < listed.size := by omega
          simp only [Array.getD, hlt2, dite_true] at h3 hun
          rw [h3] at hun; cases hun
        · exact h1
      · have sub : ∀ i, i ∈ Region.ready .any L.toArray listed → i ∈ Region.ready .any (addE z js 0 L).toArray listed := by
          intro i hi
          rcases fwd listed hsz i hi with h | ⟨_, h⟩
          · exact h
          · exact (hz' h).elim
        refine ⟨fun hnil => H.1 ?_, fun i hi => wpOpIn_mono (fun a w h => ih _ _ _ (by simpa using hsz) h) (same_op (H.2 i (sub i hi)))⟩
        cases hrd : Region.ready .any (addE z js 0 L).toArray listed with
        | nil => rfl
        | cons i rs =>
          exfalso
          have := back listed i (by rw [hrd]; simp)
          rw [hnil] at this; cases this
end

theorem w_late {P : Program} {C : Cx} {e : Env} {H : List SO} {K : Exit → Env → List SO → Prop} {L : List Oper} (z : Nat) (js : List Nat) (hr : C.r = none) (hm : P.follows .mixedOrders = true) (hok : okLate z js L = true) (hK : ∀ c e H, ¬ K (.panic c) e H)
    (h : WA P C (addE z js 0 L) e H K) : WA P C L e H K := fun a w hat => by
  have hF : (Fr C.r).round = none := by rw [hr]; rfl
  have h1 := h a w hat
  have hlen : (addE z js 0 L).toArray.size = L.toArray.size := by simp [addE_len]
  rw [hlen] at h1
  exact late_sound hF hok (fun c a w ⟨e, H, k, _⟩ => hK c e H k) _ _ _ _ (by simp) h1
end Go.Sx
namespace Go.Sx
open Go Go.RowKit
section late
variable {P : Program} {C : Cx} {e : Env} {H : List SO} {K : Exit → Env → List SO → Prop} {ops : Array Oper} {m : Nat} {ms : List Nat} {o : Oper} {l : List Oper} {acc : List Ent} {Fin : List Oper → List Ent → Prop}
theorem ra_q' {V : SV} {j : Nat} (hg : o.guard = none) (d : Option Tmp) (hdd : o.dst = d) (hj : acc.length = j) (hd : dstOK o.dst C.nt = true) (hf : freshD (envR e always acc) o.dst)
    (h : OpDo P C.r o (envR e (bitOn m) acc) (heapR H (bitOn m) acc) fun s H' => s = V ∧ H' = heapR H (bitOn m) acc) (hb : V.inb (hl H acc) = true) (k : RAf P C ops e H Fin ms l (⟨j, d, V, []⟩ :: acc)) : RAf P C ops e H Fin (m :: ms) (o :: l) acc := by
  subst hdd
  exact ra_q hg hj hd hf h hb k
theorem ra_n' {V : SV} {N : List SO} {j : Nat} (hg : o.guard = none) (d : Option Tmp) (hdd : o.dst = d) (hj : acc.length = j) (hd : dstOK o.dst C.nt = true) (hf : freshD (envR e always acc) o.dst)
    (h : OpDo P C.r o (envR e (bitOn m) acc) (heapR H (bitOn m) acc) fun s H' => s = V ∧ H' = heapR H (bitOn m) acc ++ N) (hb : V.inb (hl H acc + N.length) = true) (hN : inbH (hl H acc + N.length) N = true) (hO : allOwn N = true)
    (k : RAf P C ops e H Fin ms l (⟨j, d, V, N⟩ :: acc)) : RAf P C ops e H Fin (m :: ms) (o :: l) acc := by
  subst hdd
  exact ra_n hg hj hd hf h hb hN hO k
end late
theorem no_panic {P : Program} {fn : Func} {n : Nat} {K : SV → List SO → Prop} {c : List PanicEntry} {e : Env} {H : List SO} (h : Ret P fn n K (.panic c) e H) : False := by
  rcases h.1 with q | q <;> cases q
end Go.Sx

set_option linter.unusedVariables false
namespace Go.Sx
open Go Go.RowKit
def subsN : List Nat → List (List Nat)
  | [] => []
  | z :: zs => ([z] :: (subsN zs).map (z :: ·)) ++ subsN zs
theorem subsN_mem : ∀ {zs Z : List Nat}, Z ≠ [] → Z.Sublist zs → Z ∈ subsN zs
  | [], Z, h1, h2 => (h1 (List.sublist_nil.1 h2)).elim
  | z :: zs, Z, h1, h2 => by
    simp only [subsN]
    cases h2 with
    | cons _ h => exact List.mem_append_right _ (subsN_mem h1 h)
    | cons_cons _ h =>
      rename_i Z'
      apply List.mem_append_left
      cases Z' with
      | nil => simp
      | cons y Y => exact List.mem_cons_of_mem _ (List.mem_map.2 ⟨_, subsN_mem (by simp) h, rfl⟩)
theorem all_nil {R : List Nat → Prop} : ∀ Z ∈ ([] : List (List Nat)), R Z := fun Z h => by cases h
theorem all_cons {R : List Nat → Prop} {a : List Nat} {l : List (List Nat)} (h : R a) (k : ∀ Z ∈ l, R Z) : ∀ Z ∈ a :: l, R Z := fun Z hZ => by
  rcases List.mem_cons.1 hZ with rfl | hZ
  · exact h
  · exact k Z hZ
def bitsOf (zm : Nat) : Nat → List Nat
  | 0 => []
  | n + 1 => bitsOf zm n ++ (bif zm.testBit n then [n] else [])
section
variable {P : Program} {C : Cx} {e : Env} {H H' : List SO} {K : Exit → Env → List SO → Prop} {ops : Array Oper}
theorem wa_drawZ {L : List Oper} (ms mt zs : List Nat) (zm : Nat) (hzm : Nat.beq zm (zs.foldl (fun s z => s ||| 2 ^ z) 0) = true) (hzk : zs.all (fun z => Nat.blt z ms.length) = true) (hnd : zs.Nodup) (hmask : okMask (ms ++ mt) 0 L = true) (htail : okTailZ zm (ms ++ mt) ms.length mt.length = true) (hlen : L.length = ms.length + mt.length)
    (hE : inbE H.length e = true) (hH : inbH H.length H = true) (hC : C.ρ.length ≤ H.length) (h : RAf P C L.toArray e H (fun l acc => RW P C L.toArray l (envR e always acc) (heapR H always acc) K ∧ ∀ Z ∈ subsN zs, LateX P C L.toArray e H K Z l acc) ms L []) : WA P C L e H K := by
  refine wa_drawL ms mt hmask htail (fun j hj => ?_) (fun j hj => blt_lt (List.all_eq_true.1 hzk j hj)) hnd hlen hE hH hC (RAf.mono (fun l acc hh => ⟨hh.1, fun Z h1 h2 => hh.2 Z (subsN_mem h1 h2)⟩) h)
  rw [Nat.eq_of_beq_eq_true hzm] at hj
  have gen : ∀ (zs : List Nat) (s : Nat), (zs.foldl (fun s z => s ||| 2 ^ z) s).testBit j = true → s.testBit j = true ∨ j ∈ zs := by
    intro zs
    induction zs with
    | nil => intro s h; exact .inl h
    | cons z zs ih =>
      intro s h
      rcases ih _ h with h | h
      · rw [Nat.testBit_or, Bool.or_eq_true, Nat.testBit_two_pow] at h
        rcases h with h | h
        · exact .inl h
        · have : z = j := by simpa using h
          subst this; exact .inr (by simp)
      · exact .inr (List.mem_cons_of_mem _ h)
  rcases gen zs 0 hj with h | h
  · simp at h
  · exact h
theorem n_fin {l : List Oper} {acc : List Ent} {e' : Env} {zs : List Nat} [h1 : ER e acc e'] [h2 : HR H acc H'] (h : RW P C ops l e' H' K) (hl : ∀ Z ∈ subsN zs, LateX P C ops e H K Z l acc) : RAf P C ops e H (fun l acc => RW P C ops l (envR e always acc) (heapR H always acc) K ∧ ∀ Z ∈ subsN zs, LateX P C ops e H K Z l acc) [] l acc :=
  ra_fin ⟨by rw [h1.eq, h2.eq]; exact h, hl⟩
def RXop (P : Program) (C : Cx) (ops : Array Oper) (K : Exit → Env → List SO → Prop) (fuel : Nat) (listed : Array Bool) (e : Env) (H : List SO) (i : Nat) : Prop :=
  ∃ o, ops[i]? = some o ∧ o.guard = none ∧ dstOK o.dst C.nt = true ∧ OpDo P C.r o e H fun s H' => RX P C ops K fuel (listed.setIfInBounds i true) (putO e o.dst s) H'
theorem rx_step {f fuel : Nat} {listed : Array Bool} (rs : List Nat) (hf : f = fuel + 1) (hr : Region.ready .any ops listed = rs) (hne : rs.isEmpty = false) (h : ∀ i ∈ rs, RXop P C ops K fuel listed e H i) : RX P C ops K f listed e H := fun a w hat => by
  subst hf
  refine ⟨fun hn => ?_, fun i hi => ?_⟩
  · rw [hr] at hn; subst hn; cases hne
  · rw [hr] at hi
    obtain ⟨o, h1, h2, h3, h4⟩ := h i hi
    unfold wpOpIn
    simp only [h1, Region.wanted, h2, if_true]
    exact h4.wp h3 (fun s H' a w k q => k a w q) hat
theorem rx_done {f : Nat} {listed : Array Bool} (hr : Region.ready .any ops listed = []) (h : K .normal e H) : RX P C ops K f listed e H := fun a w hat => wpAnyIn_done hr ⟨e, H, h, hat⟩ f
theorem rx_nil {f : Nat} {listed : Array Bool} : ∀ i ∈ ([] : List Nat), RXop P C ops K f listed e H i := fun i h => by cases h
theorem rx_cons {f i : Nat} {l : List Nat} {listed : Array Bool} (h : RXop P C ops K f listed e H i) (k : ∀ i ∈ l, RXop P C ops K f listed e H i) : ∀ j ∈ i :: l, RXop P C ops K f listed e H j := fun j hj => by
  rcases List.mem_cons.1 hj with rfl | hj
  · exact h
  · exact k j hj
end
end Go.Sx

set_option linter.unusedVariables false
set_option linter.unusedSimpArgs false
namespace Go.Sx
open Go Go.RowKit
class TyBool (P : Program) (t : TypeId) : Prop where
  out : P.underlying t = some .bool
theorem equal_bool {P : Program} {t : TypeId} (h : P.underlying t = some .bool) (a b : Bool) (w : World) : (Op.equal t (.bool a) (.bool b)).run P w = .ok (a == b) w := by
  show (Op.equalIn (9999 + 1) t (.bool a) (.bool b)).run P w = .ok (a == b) w
  unfold Op.equalIn
  simp [Go.run_underlying, h]
section ops
variable {P : Program} {r : Option Nat} {d : Option Tmp} {t : TypeId} {ps : String} {af : Array Edge} {g : Option (Nat × Bool)} {e : Env} {H : List SO} {K : SV → List SO → Prop}
theorem do_neB {xt yt : TypeId} {x y : Operand} {a0 b0 : Bool} [hT : TyBool P xt] (hx : ev e x = some (.val (.bool a0))) (hy : ev e y = some (.val (.bool b0)))
    (k : K (.val (.bool (!(a0 == b0)))) H) : OpDo P r ⟨d, .binOp .neq xt x y yt, t, ps, af, g⟩ e H K :=
  .pure (by simp) (fun ρ a w he hs => by
    have h1 := he.ev hx; have h2 := he.ev hy; simp only [Rep] at h1 h2
    exact ⟨.bool (!(a0 == b0)), by simp [execOp, h1, h2, eqGuard, binOp, equal_bool hT.out], by simp only [Rep]⟩) k
end ops
end Go.Sx

set_option linter.unusedVariables false
set_option linter.unusedSimpArgs false
namespace Go.Sx
open Go Go.RowKit

/-- The loop's record: its block is an object whose values are the caller's temporaries. -/
def loopQ (fn nt : Nat) (ts : List Nat) (ps : Array Tmp) (assign body : Code) (D : Nat) (st : LoopState) (pend : Option Code) (vs : List Value) (ob : Obj) : Prop :=
  ∃ tmps : Array Value, ob = .loop { state := st, pending := pend, fn := fn, tmps := tmps, params := ps, assign := assign, body := body, defers := D } ∧ tmps.size = nt ∧
    ∀ (k : Nat) (t : Nat) (v : Value), ts[k]? = some t → vs[k]? = some v → tmps.getD t undef = v

theorem St.gen_at {ρ : Rho} {H : List SO} {w : World} (hs : St ρ H w) {y : Nat} {cs : List SV} {q : List Value → Obj → Prop} (hy : H[y]? = some (.gen cs q)) :
    ∃ I vs ob, ρ[y]? = some (some I) ∧ I.base = 0 ∧ w.heap[I.b]? = some ob ∧ q vs ob ∧ Reps ρ cs vs := by
  have hlt : y < ρ.length := by rw [hs.len]; exact (List.getElem?_eq_some_iff.1 hy).1
  have hk := hs.ok y _ _ hy (List.getElem?_eq_getElem hlt)
  simp only [okO] at hk
  obtain ⟨I, vs, ob, h3, h4, h5, h6, h7⟩ := hk
  exact ⟨I, vs, ob, by rw [List.getElem?_eq_getElem hlt, h3], h4, h5, h6.1, h7⟩
theorem St.put_gen {ρ : Rho} {H : List SO} {w : World} (hs : St ρ H w) {y : Nat} {I : Info} {cs : List SV} {q q' : List Value → Obj → Prop} {vs : List Value} {ob ob' : Obj} (hρ : ρ[y]? = some (some I)) (hy : H[y]? = some (.gen cs q)) (hb : I.base = 0) (hob : w.heap[I.b]? = some ob) (hr : Reps ρ cs vs) (hq : q' vs ob') (hn : ∀ x, ob' ≠ .deferred x) :
    St ρ (H.set y (.gen cs q')) (w.putObj I.b ob') ∧ Ev ρ H w ρ (H.set y (.gen cs q')) (w.putObj I.b ob') := by
  have hlt := (Array.getElem?_eq_some_iff.1 hob).1
  have hoth : ∀ b, b ≠ I.b → (w.putObj I.b ob').heap[b]? = w.heap[b]? := fun b hb => World.putObj_heap_other hb
  refine ⟨hs.put (x' := .gen cs q') hρ hy rfl (.inl rfl) hoth (by simp) ?_, Ev.put hρ hy rfl hoth (by simp) rfl rfl rfl⟩
  simp only [okO]
  exact ⟨I, vs, ob', rfl, hb, World.putObj_heap_same hlt, ⟨hq, hn⟩, hr⟩
theorem St.put_dead {ρ : Rho} {H : List SO} {w : World} (hs : St ρ H w) {y : Nat} {I : Info} {cs : List SV} {q : List Value → Obj → Prop} {ob' : Obj} (hρ : ρ[y]? = some (some I)) (hy : H[y]? = some (.gen cs q)) :
    St ρ (H.set y .dead) (w.putObj I.b ob') ∧ Ev ρ H w ρ (H.set y .dead) (w.putObj I.b ob') := by
  have hoth : ∀ b, b ≠ I.b → (w.putObj I.b ob').heap[b]? = w.heap[b]? := fun b hb => World.putObj_heap_other hb
  exact ⟨hs.put (x' := .dead) hρ hy rfl (.inr rfl) hoth (by simp) (by simp only [okO]), Ev.put hρ hy rfl hoth (by simp) rfl rfl rfl⟩

/-- The parameters of a round. -/
def envP (e : Env) : List Nat → List SV → Env
  | p :: ps, s :: ss => envP ((p, s) :: e) ps ss
  | _, _ => e
theorem env_fold {ρ : Rho} : ∀ (l : List (Nat × Value)) (tmps : Array Value) (e : Env) (ss : List SV), Reps ρ ss (l.map (·.2)) → (∀ t v, e.get t = some v → Rep ρ v (tmps.getD t undef)) → (∀ p ∈ l, p.1 < tmps.size) →
    (l.foldl (fun t (p : Nat × Value) => t.setIfInBounds p.1 p.2) tmps).size = tmps.size ∧ ∀ t v, (envP e (l.map (·.1)) ss).get t = some v → Rep ρ v ((l.foldl (fun t (p : Nat × Value) => t.setIfInBounds p.1 p.2) tmps).getD t undef)
  | [], tmps, e, ss, hr, he, hl => by
    cases ss with
    | nil => exact ⟨rfl, he⟩
    | cons s ss => simp [Reps] at hr
  | (p, a) :: l, tmps, e, ss, hr, he, hl => by
    cases ss with
    | nil => simp [Reps] at hr
    | cons s ss =>
      simp only [List.map_cons, Reps] at hr
      have hp : p < tmps.size := hl (p, a) (by simp)
      have ih := env_fold l (tmps.setIfInBounds p a) ((p, s) :: e) ss hr.2 (fun t v hv => by
        rw [Env.get_cons] at hv
        split at hv
        · rename_i ht
          subst ht
          simp only [Option.some.injEq] at hv
          subst hv
          rw [Array.getD_eq_getD_getElem?, Array.getElem?_setIfInBounds]
          simp [hp, hr.1]
        · rename_i ht
          have := he t v hv
          rw [Array.getD_eq_getD_getElem?, Array.getElem?_setIfInBounds_ne (fun h => ht h.symm)]
          rwa [Array.getD_eq_getD_getElem?] at this) (fun q hq => by rw [Array.size_setIfInBounds]; exact hl q (by simp [hq]))
      exact ⟨by rw [List.foldl_cons, ih.1, Array.size_setIfInBounds], ih.2⟩
theorem zip_env {ρ : Rho} {tmps : Array Value} : ∀ {ts : List Nat} {cs : List SV} {vs : List Value}, Reps ρ cs vs → (∀ (k : Nat) (t : Nat) (v : Value), ts[k]? = some t → vs[k]? = some v → tmps.getD t undef = v) → ∀ t s, Env.get (ts.zip cs) t = some s → Rep ρ s (tmps.getD t undef)
  | [], cs, vs, _, _, t, s, h => by simp [Env.get] at h
  | t0 :: ts, [], vs, _, _, t, s, h => by simp [Env.get] at h
  | t0 :: ts, s0 :: cs, [], hr, _, t, s, h => by simp [Reps] at hr
  | t0 :: ts, s0 :: cs, v0 :: vs, hr, hq, t, s, h => by
    simp only [Reps] at hr
    rw [List.zip_cons_cons, Env.get_cons] at h
    split at h
    · rename_i ht
      subst ht
      simp only [Option.some.injEq] at h
      subst h
      rw [hq 0 t v0 (by simp) (by simp)]
      exact hr.1
    · exact zip_env hr.2 (fun k t v h1 h2 => hq (k + 1) t v (by simpa using h1) (by simpa using h2)) t s h

/-- Where a round's body ends. -/
def RoundK (y : Nat) (q : LoopState → Option Code → List Value → Obj → Prop) (K : SV → List SO → Prop) : Exit → Env → List SO → Prop
  | .normal, _, H => ∃ cs, H[y]? = some (.gen cs (q .busy none)) ∧ K (.val (.bool true)) (H.set y (.gen cs (q .ready none)))
  | .ret, _, H => ∃ cs, H[y]? = some (.gen cs (q .busy none)) ∧ K (.val (.bool false)) (H.set y (.gen cs (q .done (some .ret))))
  | .exit i, _, H => ∃ cs, H[y]? = some (.gen cs (q .busy none)) ∧ K (.val (.bool false)) (H.set y (.gen cs (q .done (some (.exit i)))))
  | _, _, _ => False
def AsgK (P : Program) (C : Cx) (body : Code) (y : Nat) (q : LoopState → Option Code → List Value → Obj → Prop) (K : SV → List SO → Prop) : Exit → Env → List SO → Prop
  | .normal, e, H => ∃ cs, H[y]? = some (.gen cs (q .ready none)) ∧ W P C body e (H.set y (.gen cs (q .busy none))) (RoundK y q K)
  | _, _, _ => False

section call
variable {P : Program} {r : Option Nat} {d : Option Tmp} {t : TypeId} {pos : String} {af : Array Edge} {gd : Option (Nat × Bool)} {e : Env} {H : List SO} {K : SV → List SO → Prop}
theorem do_yield {f : Operand} {args : Array Operand} {ats : Array TypeId} {y fn nt D : Nat} {ts : List Nat} {ps : Array Tmp} {assign body : Code} {cs ag : List SV} (hf : ev e f = some (.yield y)) (ha : evs e args.toList = some ag)
    (hy : H[y]? = some (.gen cs (loopQ fn nt ts ps assign body D .ready none))) (hn : args.size = ps.size) (hps : ps.toList.all (fun p => Nat.blt p nt) = true)
    (h : ∀ ρ w l, ρ.length = H.length → W P ⟨ρ, H, w, nt, [], some l⟩ assign (envP (ts.zip cs) ps.toList ag) H (AsgK P ⟨ρ, H, w, nt, [], some l⟩ body y (loopQ fn nt ts ps assign body D) K)) :
    OpDo P r ⟨d, .call ⟨.value f, args, ats⟩, t, pos, af, gd⟩ e H K := by
  refine ⟨by simp, fun ρ a w he hs => ?_⟩
  have h1 := he.ev hf
  simp only [Rep] at h1
  obtain ⟨I, hI, hv⟩ := h1
  obtain ⟨I', vs, ob, g1, g2, g3, ⟨tmps, rfl, q1, q2⟩, g5⟩ := hs.gen_at hy
  rw [hI] at g1
  simp only [Option.some.injEq] at g1
  subst g1
  have hag := he.evs ha
  have hsz : (args.map a.eval).size = ps.size := by simp [hn]
  refine ⟨.round I.b fn ((ps.zip (args.map a.eval)).foldl (fun tmps (t, a) => tmps.setIfInBounds t a) tmps) assign body, w, ?_, rfl, ?_⟩
  · have := run_yield (P := P) (args := args.map a.eval) g3 hsz
    simp [execOp, resolve, hv, Deferred.ofValue, invoke, this]
  · refine roundIn_of_wpIn (F := Fr none) trivial ?_
    have hz : (ps.zip (args.map a.eval)).toList = ps.toList.zip (args.toList.map a.eval) := by simp
    have hz2 : (ps.toList.zip (args.toList.map a.eval)).map (·.2) = args.toList.map a.eval := List.map_snd_zip (by simp; omega)
    have hz1 : (ps.toList.zip (args.toList.map a.eval)).map (·.1) = ps.toList := List.map_fst_zip (by simp; omega)
    have hfold := env_fold (ρ := ρ) (ps.toList.zip (args.toList.map a.eval)) tmps (ts.zip cs) ag (by rw [hz2]; exact hag) (zip_env g5 q2) (fun p hp => by
      have h1 := List.all_eq_true.1 hps p.1 (List.of_mem_zip hp).1
      have h2 : p.1 < nt := by simpa using h1
      omega)
    rw [hz1] at hfold
    have hat : At ⟨ρ, H, w, nt, [], some I.b⟩ (envP (ts.zip cs) ps.toList ag) H { tmps := (ps.zip (args.map a.eval)).foldl (fun tmps (t, a) => tmps.setIfInBounds t a) tmps, defers := [] } w := by
      have e1 : (ps.zip (args.map a.eval)).foldl (fun tmps (t, a) => tmps.setIfInBounds t a) tmps = (ps.toList.zip (args.toList.map a.eval)).foldl (fun t (p : Nat × Value) => t.setIfInBounds p.1 p.2) tmps := by
        rw [← Array.foldl_toList, hz]
      refine ⟨ρ, fun t v hv => ?_, hs, Ev.refl _ _ _, ?_, Mk.nil⟩
      · rw [e1]; exact hfold.2 t v hv
      · rw [e1]; exact hfold.1.trans q1
    refine wpIn_mono (h ρ w I.b hs.len _ _ hat) ?_
    rintro x a1 w1 ⟨e1, H1, k, ρ1, he1, hs1, hev1, hsz1, hmk1⟩
    cases x with
    | normal =>
      obtain ⟨cs1, k1, k2⟩ := k
      obtain ⟨I1, vs1, ob1, b1, b2, b3, ⟨tmps1, rfl, b4, b5⟩, b6⟩ := hs1.gen_at k1
      have e2 := hev1.ext y I hI
      rw [b1] at e2
      simp only [Option.some.injEq] at e2
      subst e2
      refine ⟨_, run_beginRound b3 rfl, ?_⟩
      obtain ⟨m1, m2⟩ := hs1.put_gen (q' := loopQ fn nt ts ps assign body D .busy none) b1 k1 b2 b3 b6 ⟨tmps1, rfl, b4, b5⟩ (fun x e => by cases e)
      refine wpIn_mono (k2 a1 _ ⟨ρ1, he1, m1, hev1.trans m2, hsz1, hmk1.step m2⟩) ?_
      rintro x2 a2 w2 ⟨e3, H3, k3, ρ3, he3, hs3, hev3, hsz3, hmk3⟩
      have fin : ∀ (jump : Option Code) (st : LoopState) (bb : Bool) (cs3 : List SV), H3[y]? = some (.gen cs3 (loopQ fn nt ts ps assign body D .busy none)) → st = (if jump.isNone then .ready else .done) → bb = jump.isNone →
          K (.val (.bool bb)) (H3.set y (.gen cs3 (loopQ fn nt ts ps assign body D st jump))) → ∃ v w', (Instr.endRound I1.b jump).run P w2 = .ok v w' ∧ Ends ρ H w K (.returned v) w' := by
        intro jump st bb cs3 c1 hst hbb hk
        obtain ⟨I3, vs3, ob3, d1, d2, d3, ⟨tmps3, rfl, d4, d5⟩, d6⟩ := hs3.gen_at c1
        have e4 := hev3.ext y I1 hI
        rw [d1] at e4
        simp only [Option.some.injEq] at e4
        subst e4
        obtain ⟨n1, n2⟩ := hs3.put_gen (q' := loopQ fn nt ts ps assign body D st jump) d1 c1 d2 d3 d6 ⟨tmps3, rfl, d4, d5⟩ (fun x e => by cases e)
        refine ⟨_, _, run_endRound jump d3, _, rfl, ρ3, .val (.bool bb), _, by simp only [Rep, hbb], ?_, hev3.trans ?_, hk⟩
        · rw [← hst]; exact n1
        · rw [← hst]; exact n2
      cases x2 with
      | normal => obtain ⟨cs3, c1, c2⟩ := k3; exact fin none _ _ cs3 c1 rfl rfl c2
      | ret => obtain ⟨cs3, c1, c2⟩ := k3; exact fin (some .ret) _ _ cs3 c1 rfl rfl c2
      | exit i => obtain ⟨cs3, c1, c2⟩ := k3; exact fin (some (.exit i)) _ _ cs3 c1 rfl rfl c2
      | _ => exact k3.elim
    | _ => exact k.elim
end call

/-- Where the function that is ranged over ends. -/
def IterK (y : Nat) (q : LoopState → Option Code → List Value → Obj → Prop) (e : Env) (K : Exit → Env → List SO → Prop) (H : List SO) : Prop :=
  ∃ cs st pend, H[y]? = some (.gen cs (q st pend)) ∧ st ≠ .busy ∧
    (match pend with
      | none => K .normal e (H.set y .dead)
      | some .ret => K .ret e (H.set y .dead)
      | some (.exit i) => K (.exit i) e (H.set y .dead)
      | _ => False)
theorem St.grow {ρ : Rho} {H : List SO} {w w' : World} (hs : St ρ H w) (h : ∀ b, b < w.heap.size → w'.heap[b]? = w.heap[b]?) (hsz : w.heap.size ≤ w'.heap.size) : St ρ H w' :=
  ⟨hs.len, fun o obj io a b => (hs.ok o obj io a b).keep (Ext.refl _) hsz (fun I _ _ hb => h _ hb), hs.inj, hs.ro⟩

theorem callsIn_round {P : Program} {r : Option Nat} {f : FuncId} {args : Array Value} {w : World} {R : Ending → World → Prop} (h : CallsIn (Fr none) 0 P f args w R) : CallsIn (Fr r) 0 P f args w R := by
  cases r with
  | none => exact h
  | some l => exact CallsIn.inRound l h
section rules
variable {P : Program} {C : Cx} {e : Env} {H : List SO} {K : Exit → Env → List SO → Prop}
theorem w_rangeFunc {g : Operand} {ps : Array Tmp} {assign body : Code} {gf : FuncId} {fs caps : List SV} [FnOK P gf] (es : Env) (hr : C.r = none) (hg : ev e g = some (.func gf fs caps)) (hes : ShE id e es)
    (h : ∀ fn D, Tri P gf (fs ++ [.yield H.length] ++ caps) (H ++ [.gen (es.map (·.2)) (loopQ fn C.nt (es.map (·.1)) ps assign body D .ready none)])
      (fun _ H' => IterK H.length (loopQ fn C.nt (es.map (·.1)) ps assign body D) es K H')) : W P C (.rangeFunc g ps assign body) e H K := fun a w hat => by
  obtain ⟨ρ, he, hs, hev, hsz, hmk⟩ := hat
  refine wpIn_rangeFunc fun fn _ => ?_
  have hgv := he.ev hg
  simp only [Rep] at hgv
  obtain ⟨va, vb, g1, g2, g3⟩ := hgv
  have hw1 : St ρ H (w.alloc (.deferred (some []))) := hs.grow (fun b hb => Below.heap_alloc w _ b hb) (by simp)
  have hev1 : Ev ρ H w ρ H (w.alloc (.deferred (some []))) := ⟨List.prefix_refl _, by simp, rfl, rfl, rfl, fun b hb _ => Below.heap_alloc w _ b hb, fun _ h => .inl h⟩
  let vs : List Value := es.map fun p => a.tmps.getD p.1 undef
  have hreps : ∀ (ρ' : Rho), Ext ρ ρ' → ∀ (l : Env), (∀ p ∈ l, Rep ρ p.2 (a.tmps.getD p.1 undef)) → Reps ρ' (l.map (·.2)) (l.map fun p => a.tmps.getD p.1 undef) := by
    intro ρ' hx l
    induction l with
    | nil => intro _; simp only [List.map_nil, Reps]
    | cons p l ih =>
      intro hl
      simp only [List.map_cons, Reps]
      exact ⟨Rep.ext hx _ _ (hl p (by simp)), ih fun q hq => hl q (by simp [hq])⟩
  have hall : ∀ p ∈ es, Rep ρ p.2 (a.tmps.getD p.1 undef) := by
    have gen : ∀ l : Env, ShE id e l → ∀ p ∈ l, Rep ρ p.2 (a.tmps.getD p.1 undef) := by
      intro l
      induction l with
      | nil => intro _ p hp; cases hp
      | cons q l ih =>
        intro hl p hp
        simp only [ShE] at hl
        rcases List.mem_cons.1 hp with rfl | hp
        · obtain ⟨s, h1, h2⟩ := hl.1
          rw [svId] at h2
          exact he _ _ (h2 ▸ h1)
        · exact ih hl.2 p hp
    exact gen es hes
  obtain ⟨s1, s2⟩ := hw1.newG (ob := .loop { state := .ready, pending := none, fn := fn, tmps := a.tmps, params := ps, assign := assign, body := body, defers := w.heap.size })
    (obj := .gen (es.map (·.2)) (loopQ fn C.nt (es.map (·.1)) ps assign body w.heap.size .ready none)) (sz := 1) (n := 0) rfl (by
      simp only [okO]
      refine ⟨_, vs, _, rfl, rfl, heap_alloc_new _ _, ⟨⟨a.tmps, rfl, hsz, fun k t v h1 h2 => ?_⟩, fun x h => by cases h⟩, hreps _ (Ext.append _ _) es hall⟩
      rw [List.getElem?_map] at h1
      simp only [vs, List.getElem?_map] at h2
      cases hk : es[k]? with
      | none => rw [hk] at h1; cases h1
      | some p =>
        rw [hk] at h1 h2
        simp only [Option.map_some, Option.some.injEq] at h1 h2
        rw [← h1, ← h2])
  have hsz1 : (w.alloc (.deferred (some []))).heap.size = w.heap.size + 1 := by simp
  have hargs : Reps (ρ ++ [some ⟨w.heap.size + 1, 0, 1, 0⟩]) (fs ++ [.yield H.length] ++ caps) (va.toList ++ [.func (.yield (w.heap.size + 1)) #[] #[]] ++ vb.toList) := by
    refine ((Reps.ext (Ext.append _ _) _ _ g2).append ?_).append (Reps.ext (Ext.append _ _) _ _ g3)
    simp only [Reps, Rep, and_true]
    exact ⟨_, by rw [← hs.len]; exact getElem_snoc_len _ _, rfl⟩
  rw [hsz1] at s1 s2
  obtain ⟨w1, hw1e⟩ : ∃ w1, w1 = (w.alloc (.deferred (some []))).alloc (.loop { state := .ready, pending := none, fn := fn, tmps := a.tmps, params := ps, assign := assign, body := body, defers := w.heap.size }) := ⟨_, rfl⟩
  refine ⟨w.heap.size + 1, [{ target := .collected w.heap.size, args := #[] }], w1, { target := .fn (.func gf) vb, args := va ++ #[.func (.yield (w.heap.size + 1)) #[] #[]] }, w1, gf, va ++ #[.func (.yield (w.heap.size + 1)) #[] #[]] ++ vb, w1,
    by rw [hw1e, show (Fr C.r).round = none from hr]; exact run_enterLoop_outer _ _ _ _ _, ?_, fun _ _ => trivial, ?_, Fr.depth _, ?_⟩
  · simp [resolve, g1, Deferred.ofValue]; rfl
  · simp [invoke, run_callFunc]
  · rw [← hw1e] at s1 s2
    have hc := h fn w.heap.size _ w1 _ hargs s1
    have e1 : (va.toList ++ [Value.func (.yield (w.heap.size + 1)) #[] #[]] ++ vb.toList).toArray = va ++ #[.func (.yield (w.heap.size + 1)) #[] #[]] ++ vb := by
      apply Array.ext'
      simp
    rw [e1] at hc
    refine (callsIn_round (r := C.r) hc).mono ?_
    rintro ed w3 ⟨v, rfl, ρ3, s3, H3, -, hs3, hev3, cs3, st, pend, hy, hst, hk⟩
    obtain ⟨I3, vs3, ob3, d1, d2, d3, ⟨tmps3, rfl, d4, d5⟩, d6⟩ := hs3.gen_at hy
    have hI3 : I3.b = w.heap.size + 1 := by
      have := hev3.ext H.length _ (by rw [← hs.len]; exact getElem_snoc_len ρ (some ⟨w.heap.size + 1, 0, 1, 0⟩))
      rw [d1] at this
      simp only [Option.some.injEq] at this
      rw [this]
    have hend := run_endLoop (P := P) d3 hst
    rw [hI3] at hend
    refine ⟨_, _, hend, ?_⟩
    obtain ⟨n1, n2⟩ := hs3.put_dead (ob' := .loop { state := .exhausted, pending := pend, fn := fn, tmps := tmps3, params := ps, assign := assign, body := body, defers := w.heap.size }) d1 hy
    rw [hI3] at n1 n2
    have hevA : Ev ρ H w ρ3 (H3.set H.length .dead) _ := (hev1.trans s2).trans (hev3.trans n2)
    have hD1 : w1.heap[w.heap.size]? = some (.deferred (some [])) := by
      rw [hw1e]; exact (Below.heap_alloc _ _ _ (by simp)).trans (World.alloc_heap_new w _)
    have hsz2 : w1.heap.size = w.heap.size + 2 := by rw [hw1e]; simp
    have hno1 : ¬ OwnB (ρ ++ [some ⟨w.heap.size + 1, 0, 1, 0⟩]) (H ++ [.gen (es.map (·.2)) (loopQ fn C.nt (es.map (·.1)) ps assign body w.heap.size .ready none)]) w.heap.size := fun ho => by
      obtain ⟨o, I, x, a1, a2, a3, a4⟩ := ho
      rcases get_snoc a1 with ⟨b1, b2⟩ | ⟨b1, b2⟩
      · rcases get_snoc a2 with ⟨c1, c2⟩ | ⟨c1, c2⟩
        · have := hs.ownB_lt ⟨o, I, x, b2, c2, a3, rfl⟩
          omega
        · have := hs.len
          omega
      · cases b2
        simp at a4
    have hevB : Ev (ρ ++ [some ⟨w.heap.size + 1, 0, 1, 0⟩]) (H ++ [.gen (es.map (·.2)) (loopQ fn C.nt (es.map (·.1)) ps assign body w.heap.size .ready none)]) w1 ρ3 (H3.set H.length .dead) _ := hev3.trans n2
    have hat : At C es (H3.set H.length .dead) { a with defers := [{ target := .collected w.heap.size, args := #[] }] ++ a.defers } (w3.putObj (w.heap.size + 1) (.loop { state := .exhausted, pending := pend, fn := fn, tmps := tmps3, params := ps, assign := assign, body := body, defers := w.heap.size })) := by
      refine ⟨ρ3, fun t v hv => ?_, n1, hev.trans hevA, hsz, ?_⟩
      · have := hes.get t v hv
        rw [svId] at this
        exact Rep.ext hevA.ext _ _ (he t v this)
      · obtain ⟨rs, m1, m2, m3⟩ := hmk.step hevA
        obtain ⟨rs0, m10, m20, m30⟩ := hmk
        refine ⟨w.heap.size :: rs0, ?_, ?_, ?_⟩
        · simp [m10]
        · rw [List.nodup_cons]
          refine ⟨fun hm => ?_, m20⟩
          have := (Array.getElem?_eq_some_iff.1 (m30 _ hm).2.1).1
          omega
        · intro r hr'
          rcases List.mem_cons.1 hr' with rfl | hr'
          · refine ⟨hev.size, (hevB.block _ (by omega) hno1).trans hD1, fun ho => ?_⟩
            rcases hevB.own _ ho with q | q
            · exact hno1 q
            · omega
          · obtain ⟨x1, x2, x3⟩ := m30 r hr'
            have hlt := (Array.getElem?_eq_some_iff.1 x2).1
            refine ⟨x1, (hevA.block r hlt x3).trans x2, fun ho => ?_⟩
            rcases hevA.own r ho with q | q
            · exact x3 q
            · omega
    cases pend with
    | none => exact ⟨es, _, hk, hat⟩
    | some c =>
      cases c with
      | ret => exact wpIn_ret ⟨es, _, hk, hat⟩
      | exit i => exact wpIn_exit ⟨es, _, hk, hat⟩
      | _ => exact hk.elim
end rules
end Go.Sx

set_option linter.unusedVariables false
set_option linter.unusedSimpArgs false
namespace Go.Sx
open Go Go.RowKit
abbrev LQ := LoopState → Option Code → List Value → Obj → Prop
def IsLoop (q : LQ) (nt : Nat) (ts : List Nat) (ps : Array Tmp) (assign body : Code) : Prop := ∃ fn D, q = loopQ fn nt ts ps assign body D
section
variable {P : Program} {C : Cx} {e : Env} {H : List SO} {K : Exit → Env → List SO → Prop}
theorem w_rf {g : Operand} {ps : Array Tmp} {assign body : Code} {gf : FuncId} {fs caps : List SV} [FnOK P gf] (es : Env) (n : Nat) (args' : List SV) (H' : LQ → List SO) (hr : C.r = none) (hg : ev e g = some (.func gf fs caps)) (hn : H.length = n) (ha : args' = fs ++ [.yield n] ++ caps)
    (hH : ∀ q : LQ, H' q = H ++ [.gen (es.map (·.2)) (q .ready none)]) (hes : ShE id e es)
    (h : ∀ q : LQ, IsLoop q C.nt (es.map (·.1)) ps assign body → Tri P gf args' (H' q) (fun _ H2 => IterK n q es K H2)) : W P C (.rangeFunc g ps assign body) e H K := by
  refine w_rangeFunc es hr hg hes fun fn D => ?_
  have := h (loopQ fn C.nt (es.map (·.1)) ps assign body D) ⟨fn, D, rfl⟩
  rw [hH, ha] at this
  rw [hn]
  exact this
theorem bl_n {i : Nat} (h : K .normal e H) : Bl i K .normal e H := h
theorem bl_r {i : Nat} (h : K .ret e H) : Bl i K .ret e H := h
theorem bl_e {i j : Nat} (hn : Nat.beq j i = false) (h : K (.exit j) e H) : Bl i K (.exit j) e H := by
  show bif Nat.beq j i then _ else _
  rw [hn]; exact h
theorem nx_r {y : Code} (h : K .ret e H) : Nx P C y K .ret e H := h
theorem nx_e {y : Code} {j : Nat} (h : K (.exit j) e H) : Nx P C y K (.exit j) e H := h
theorem asg_done {C : Cx} {body : Code} {y : Nat} {q : LQ} {K : SV → List SO → Prop} {cs : List SV} {H' : List SO} (hy : H[y]? = some (.gen cs (q .ready none))) [g : LSet H y (.gen cs (q .busy none)) H'] (k : W P C body e H' (RoundK y q K)) : AsgK P C body y q K .normal e H :=
  ⟨cs, hy, by rw [g.eq]; exact k⟩
theorem round_normal {y : Nat} {q : LQ} {K : SV → List SO → Prop} {cs : List SV} {H' : List SO} (hy : H[y]? = some (.gen cs (q .busy none))) [g : LSet H y (.gen cs (q .ready none)) H'] (k : K (.val (.bool true)) H') : RoundK y q K .normal e H :=
  ⟨cs, hy, by rw [g.eq]; exact k⟩
theorem round_ret {y : Nat} {q : LQ} {K : SV → List SO → Prop} {cs : List SV} {H' : List SO} (hy : H[y]? = some (.gen cs (q .busy none))) [g : LSet H y (.gen cs (q .done (some .ret))) H'] (k : K (.val (.bool false)) H') : RoundK y q K .ret e H :=
  ⟨cs, hy, by rw [g.eq]; exact k⟩
theorem iter_none {y : Nat} {q : LQ} {cs : List SV} {H' : List SO} (hy : H[y]? = some (.gen cs (q .ready none))) [g : LSet H y .dead H'] (k : K .normal e H') : IterK y q e K H :=
  ⟨cs, _, none, hy, by simp, by rw [g.eq]; exact k⟩
theorem iter_ret {y : Nat} {q : LQ} {cs : List SV} {H' : List SO} (hy : H[y]? = some (.gen cs (q .done (some .ret)))) [g : LSet H y .dead H'] (k : K .ret e H') : IterK y q e K H :=
  ⟨cs, _, some .ret, hy, by simp, by rw [g.eq]; exact k⟩
/-- A part of a block, said less exactly. -/
theorem w_weakB {c : Code} (b f : Nat) {s : SV} (s' : SV) (hw : ∀ ρ v, Rep ρ s v → Rep ρ s' v) {cs : List SV} (hb : H[b]? = some (.box cs)) (hf : cs[f]? = some s) (h : W P C c e (H.set b (.box (cs.set f s'))) K) : W P C c e H K := fun a w hat => by
  obtain ⟨ρ, he, hs, hev, q1, q2⟩ := hat
  have hst : St ρ (H.set b (.box (cs.set f s'))) w := by
    refine ⟨by simp [hs.len], fun i x io hx hio => ?_, fun i i' I I' x x' r1 r2 r3 r4 r5 r6 r7 => ?_, fun i i' I I' x x' r1 r2 r3 r4 r5 r6 r7 r8 => ?_⟩
    · rcases get_set hx with ⟨r1, r2, r3⟩ | ⟨r1, r2⟩
      · subst r1; subst r2
        have hk := hs.ok i _ io hb hio
        simp only [okO] at hk ⊢
        obtain ⟨I, vs, tt, h1, h2, h3, h4, h5⟩ := hk
        refine ⟨I, vs, tt, h1, h2, h3, h4, ?_⟩
        obtain ⟨v, h6, h7⟩ := h5.get f _ hf
        have h8 := h5.set f (hw _ _ h7)
        have h9 : vs.toList.set f v = vs.toList := by
          apply List.ext_getElem?
          intro k
          rw [List.getElem?_set]
          split
          · rename_i hkf
            subst hkf
            split
            · exact h6.symm
            · rename_i hlt; rw [List.getElem?_eq_none (by omega)]
          · rfl
        rwa [h9] at h8
      · exact hs.ok i x io r2 hio
    · have back : ∀ (i : Nat) (x : SO), (H.set b (.box (cs.set f s')))[i]? = some x → x.own = true → ∃ y, H[i]? = some y ∧ y.own = true := by
        intro i x hx hown
        rcases get_set hx with ⟨q1, q2, q3⟩ | ⟨q1, q2⟩
        · subst q1; exact ⟨_, hb, rfl⟩
        · exact ⟨x, q2, hown⟩
      obtain ⟨y, y1, y2⟩ := back i x r3 r5
      obtain ⟨y', y1', y2'⟩ := back i' x' r4 r6
      exact hs.inj i i' I I' y y' r1 r2 y1 y1' y2 y2' r7
    · have back : ∀ (i : Nat) (x : SO), (H.set b (.box (cs.set f s')))[i]? = some x → x.own = true → ∃ y, H[i]? = some y ∧ y.own = true := by
        intro i x hx hown
        rcases get_set hx with ⟨q1, q2, q3⟩ | ⟨q1, q2⟩
        · subst q1; exact ⟨_, hb, rfl⟩
        · exact ⟨x, q2, hown⟩
      obtain ⟨y, y1, y2⟩ := back i x r3 r5
      rcases get_set r4 with ⟨q1, q2, q3⟩ | ⟨q1, q2⟩
      · subst q2; cases r6
      · exact hs.ro i i' I I' y x' r1 r2 y1 q2 y2 r6 r7 r8
  have hown : ∀ b', OwnB ρ (H.set b (SO.box (cs.set f s'))) b' → OwnB ρ H b' := fun b' hb' => by
    obtain ⟨i, I, x, h1, h2, h3, h4⟩ := hb'
    rcases get_set h2 with ⟨q1, q2, q3⟩ | ⟨q1, q2⟩
    · subst q1; exact ⟨i, I, _, h1, hb, rfl, h4⟩
    · exact ⟨i, I, x, h1, q2, h3, h4⟩
  refine h a w ⟨ρ, he, hst, ⟨hev.pre, hev.size, hev.os, hev.tape, hev.output, hev.block, fun b' hb' => hev.own b' (hown b' hb')⟩, q1, q2.weak hown⟩
theorem cap_weak {o off len : Nat} {cap : Option Nat} (ρ : Rho) (v : Value) (h : Rep ρ (.slc o off len cap) v) : Rep ρ (.slc o off len none) v := by
  simp only [Rep] at h ⊢
  rcases h with ⟨I, c, h1, h2, h3, h4, h5⟩ | ⟨h1, h2, h3⟩
  · exact .inl ⟨I, c, h1, h2, h3, h4, fun k hk => by cases hk⟩
  · exact .inr ⟨h1, h2, fun k hk => by cases hk⟩
theorem n_capB {c : Code} (b f : Nat) {o off len : Nat} {cap : Option Nat} {cs cs' H' : _} (hb : H[b]? = some (.box cs)) (hf : cs[f]? = some (.slc o off len cap)) [h1 : LSet cs f (.slc o off len none) cs'] [h2 : LSet H b (.box cs') H'] (h : W P C c e H' K) : W P C c e H K :=
  w_weakB b f _ cap_weak hb hf (by rw [h1.eq, h2.eq]; exact h)
theorem ret_iter {fn : Func} {n y : Nat} {q : LQ} {es e' : Env} {Y : List SO} {x : Exit} (hx : x = .ret ∨ x = .normal) (h1 : fn.results.toList = []) (σ : List Nat) (h3 : ShH (nm σ H.length) H σ Y) (h4 : sep σ (owns Y) = true) (h5 : List.range n <+: σ) (k : IterK y q es K Y) :
    Ret P fn n (fun _ H2 => IterK y q es K H2) x e' H := ⟨hx, [], by rw [h1]; exact .nil, σ, Y, .tup [], rfl, h3, h4, h5, k⟩
end
section weak
variable {P : Program} {C : Cx} {e : Env} {H : List SO} {K : Exit → Env → List SO → Prop}
end weak
section call
variable {P : Program} {r : Option Nat} {d : Option Tmp} {t : TypeId} {pos : String} {af : Array Edge} {gd : Option (Nat × Bool)} {e : Env} {H : List SO} {K : SV → List SO → Prop}
theorem do_yieldQ {f : Operand} {args : Array Operand} {ats : Array TypeId} {y nt : Nat} {ts : List Nat} {ps : Array Tmp} {assign body : Code} {cs ag : List SV} {q : LQ} (e1 : Env) (hq : IsLoop q nt ts ps assign body) (hf : ev e f = some (.yield y)) (ha : evs e args.toList = some ag)
    (hy : H[y]? = some (.gen cs (q .ready none))) (hn : args.size = ps.size) (hps : ps.toList.all (fun p => Nat.blt p nt) = true) (he : envP (ts.zip cs) ps.toList ag = e1)
    (h : ∀ ρ w l, ρ.length = H.length → W P ⟨ρ, H, w, nt, [], some l⟩ assign e1 H (AsgK P ⟨ρ, H, w, nt, [], some l⟩ body y q K)) :
    OpDo P r ⟨d, .call ⟨.value f, args, ats⟩, t, pos, af, gd⟩ e H K := by
  obtain ⟨fn, D, rfl⟩ := hq
  subst he
  exact do_yield hf ha hy hn hps h
end call
end Go.Sx

set_option linter.unusedVariables false
namespace Go.Sx
open Go
theorem fill_le {p p' : Nat → Option (Nat × Nat)} (h : ∀ i x, p i = some x → p' i = some x) : ∀ (pv : List (Nat × Value)) (cv ov : Array Value), Instr.fill p cv pv = some ov → Instr.fill p' cv pv = some ov
  | [], cv, ov, hf => hf
  | (i, v) :: pv, cv, ov, hf => by
    simp only [Instr.fill] at hf ⊢
    cases hp : p i with
    | none => rw [hp] at hf; cases hf
    | some x =>
      rw [hp] at hf
      rw [h i x hp]
      obtain ⟨off, size⟩ := x
      dsimp only at hf ⊢
      split at hf
      · cases hf
      · rename_i hc
        rw [if_neg hc]
        exact fill_le h pv _ ov hf
class TyBuildA (P : Program) (t : TypeId) (places : outParam (List (Nat × Nat))) (z : outParam (List Value)) : Prop where
  out : ∀ w : World, ∃ len el sz, P.underlying t = some (.array len el) ∧ (zeroValue t).run P w = .ok (.agg z.toArray) w ∧ (sizeOf el).run P w = .ok sz w ∧ ∀ (i : Nat) (x : Nat × Nat), places[i]? = some x → x = (i * sz, sz)
class TyIdxA (P : Program) (t : TypeId) (len el n : outParam Nat) : Prop where
  out : P.underlying t = some (.array len el) ∧ ((∃ fs, P.underlying el = some (.struct fs)) ∨ ∃ m el', P.underlying el = some (.array m el')) ∧ ∃ i, P.info? el = some i ∧ i.size = n
section ops
variable {P : Program} {r : Option Nat} {d : Option Tmp} {t : TypeId} {ps : String} {af : Array Edge} {g : Option (Nat × Bool)} {e : Env} {H : List SO} {K : SV → List SO → Prop}
theorem do_buildA {T : TypeId} {parts : Array (Nat × Operand)} {places : List (Nat × Nat)} {z : List Value} {pv : List (Nat × SV)} {out : List SV} [hT : TyBuildA P T places z] (hp : evsI e parts.toList = some pv)
    (ho : fillSV places (z.map .val) pv = some out) (k : K (.agg out) H) : OpDo P r ⟨d, .build T parts, t, ps, af, g⟩ e H K :=
  .pure (by simp) (fun ρ a w he hs => by
    obtain ⟨len, el, sz, q1, q2, q3, q4⟩ := hT.out w
    obtain ⟨h1, h2⟩ := he.evsI hp
    obtain ⟨ov, h3, h4⟩ := run_fill pv _ (z.map .val) z.toArray out h1 h2 (by simpa using reps_vals z) ho
    refine ⟨.agg ov, ?_, by simp only [Rep]; exact ⟨_, rfl, h4⟩⟩
    have h3' : Instr.fill (fun i => some (i * sz, sz)) z.toArray (parts.map fun (i, x) => (i, a.eval x)).toList = some ov := by
      refine fill_le (p := fun x => places.toArray[x]?) (fun i x hx => ?_) _ _ _ (by simpa using h3)
      have := q4 i x (by simpa using hx)
      rw [this]
    simp only [execOp, Instr.build, Sem.run_bind, q2, Result.andThen_ok, run_under q1, Value.cells, q3, h3', Sem.run_pure]) k
theorem do_indexA {T : TypeId} {x y : Operand} {len el n : Nat} {k0 : IntKind} {ie : Int} {l out : List SV} [hT : TyIdxA P T len el n] (hx : ev e x = some (.agg l)) (hy : ev e y = some (.val (.int k0 ie))) (hi : 0 ≤ ie ∧ ie < len)
    (ho : (l.drop (ie.toNat * n)).take n = out) (k : K (.agg out) H) : OpDo P r ⟨d, .index T x y, t, ps, af, g⟩ e H K :=
  .pure (by simp) (fun ρ a w he hs => by
    obtain ⟨q1, q2, i, q3, q4⟩ := hT.out
    have h1 := he.ev hx; simp only [Rep] at h1
    obtain ⟨vs, h1, h2⟩ := h1
    have h5 := he.ev hy; simp only [Rep] at h5
    subst ho
    refine ⟨.agg (vs.extract (ie.toNat * n) (ie.toNat * n + n)), ?_, ?_⟩
    · simp only [execOp, Instr.index, h5, asIntOf, Sem.run_bind, Sem.run_pure, Result.andThen_ok, run_under q1, h1, if_pos hi, run_size q3, q4, part, run_isAgg_agg q2, if_true]
    · simp only [Rep]
      exact ⟨_, rfl, by simpa using (h2.drop (ie.toNat * n)).take n⟩) k
end ops
end Go.Sx

set_option linter.unusedVariables false
set_option linter.unusedSimpArgs false
namespace Go.Sx
open Go Go.RowKit
/-- A write: the operation, the object, what it becomes. -/
abbrev Wr := Nat × Nat × SO
def baseW (p : Nat → Bool) : List Wr → List SO → List SO
  | [], H => H
  | (j, o, X) :: Ws, H => baseW p Ws (bif p j then H.set o X else H)
def seesW (m i : Nat) (ms : List Nat) (j : Nat) : Bool := bitOn m j || (bitOn (ms.getD j 0) i || Nat.beq j i)
def hideW (m i : Nat) (ms : List Nat) : List Wr → List SO → List SO
  | [], H => H
  | (j, o, _) :: Ws, H => hideW m i ms Ws (bif seesW m i ms j then H else H.set o .dead)
def viewW (m i : Nat) (ms : List Nat) (Ws : List Wr) (H : List SO) : List SO := hideW m i ms Ws (baseW (bitOn m) Ws H)
/-- Writes of the same object wait for each other; each operation writes once. -/
def okW1 (ms : List Nat) (j o : Nat) : List Wr → Bool
  | [] => true
  | (j', o', _) :: Ws => Nat.blt j j' && ((!Nat.beq o o' || bitOn (ms.getD j' 0) j) && okW1 ms j o Ws)
def okWs (ms : List Nat) : List Wr → Bool
  | [] => true
  | (j, o, _) :: Ws => okW1 ms j o Ws && okWs ms Ws
theorem okW1_all {ms : List Nat} {j o : Nat} : ∀ {Ws : List Wr}, okW1 ms j o Ws = true → ∀ z ∈ Ws, j < z.1 ∧ (o = z.2.1 → bitOn (ms.getD z.1 0) j = true)
  | [], _, z, hz => by cases hz
  | (j', o', X) :: Ws, h, z, hz => by
    simp only [okW1, Bool.and_eq_true, Bool.or_eq_true, Bool.not_eq_true'] at h
    rcases List.mem_cons.1 hz with rfl | hz
    · refine ⟨blt_lt h.1, fun e => ?_⟩
      rcases h.2.1 with h2 | h2
      · dsimp only at e; rw [e] at h2; simp at h2
      · exact h2
    · exact okW1_all h.2.2 z hz
theorem bif_len (b : Bool) (H : List SO) (o : Nat) (X : SO) : (bif b then H.set o X else H).length = H.length := by cases b <;> simp
theorem bif_len2 (b : Bool) (H : List SO) (o : Nat) (X : SO) : (bif b then H else H.set o X).length = H.length := by cases b <;> simp
theorem baseW_len {p : Nat → Bool} : ∀ (Ws : List Wr) (H : List SO), (baseW p Ws H).length = H.length
  | [], H => rfl
  | (j, o, X) :: Ws, H => by simp only [baseW]; rw [baseW_len Ws, bif_len]
theorem hideW_len {m i : Nat} {ms : List Nat} : ∀ (Ws : List Wr) (H : List SO), (hideW m i ms Ws H).length = H.length
  | [], H => rfl
  | (j, o, X) :: Ws, H => by simp only [hideW]; rw [hideW_len Ws, bif_len2]
theorem viewW_len {m i : Nat} {ms : List Nat} (Ws : List Wr) (H : List SO) : (viewW m i ms Ws H).length = H.length := by unfold viewW; rw [hideW_len, baseW_len]
theorem base_congr {p q : Nat → Bool} {o : Nat} : ∀ (Ws : List Wr) (H H' : List SO), (∀ y ∈ Ws, y.2.1 = o → p y.1 = q y.1) → H.length = H'.length → H[o]? = H'[o]? → (baseW p Ws H)[o]? = (baseW q Ws H')[o]?
  | [], H, H', _, _, h => h
  | (j, o', X) :: Ws, H, H', hw, hl, h => by
    simp only [baseW]
    refine base_congr Ws _ _ (fun y hy => hw y (List.mem_cons_of_mem _ hy)) (by rw [bif_len, bif_len]; exact hl) ?_
    by_cases ho : o' = o
    · subst ho
      rw [hw _ (List.mem_cons_self ..) rfl]
      cases q j with
      | true => simp [List.getElem?_set, hl]
      | false => exact h
    · have e1 : ∀ (b : Bool) (G : List SO), (bif b then G.set o' X else G)[o]? = G[o]? := by
        intro b G; cases b
        · rfl
        · simp only [cond_true]; rw [List.getElem?_set_ne ho]
      rw [e1, e1]; exact h
theorem base_skip {p : Nat → Bool} {o : Nat} : ∀ (Ws : List Wr) (H : List SO), (∀ y ∈ Ws, y.2.1 = o → p y.1 = false) → (baseW p Ws H)[o]? = H[o]?
  | [], H, _ => rfl
  | (j, o', X) :: Ws, H, hw => by
    simp only [baseW]
    rw [base_skip Ws _ (fun y hy => hw y (List.mem_cons_of_mem _ hy))]
    by_cases ho : o' = o
    · rw [hw _ (List.mem_cons_self ..) ho]; rfl
    · cases p j
      · rfl
      · simp only [cond_true]; rw [List.getElem?_set_ne ho]
theorem base_app {p : Nat → Bool} : ∀ (A B : List Wr) (H : List SO), baseW p (A ++ B) H = baseW p B (baseW p A H)
  | [], B, H => rfl
  | (j, o, X) :: A, B, H => by simp only [List.cons_append, baseW]; exact base_app A B _
theorem base_none {p : Nat → Bool} (hp : ∀ j, p j = false) : ∀ (Ws : List Wr) (H : List SO), baseW p Ws H = H
  | [], H => rfl
  | (j, o, X) :: Ws, H => by simp only [baseW, hp, cond_false]; exact base_none hp Ws H
theorem hide_get {m i : Nat} {ms : List Nat} : ∀ (Ws : List Wr) (H : List SO) (o : Nat) (z : SO), (hideW m i ms Ws H)[o]? = some z → z = .dead ∨ (H[o]? = some z ∧ ∀ y ∈ Ws, y.2.1 = o → seesW m i ms y.1 = true)
  | [], H, o, z, h => .inr ⟨h, fun y hy => by cases hy⟩
  | (j, o', X) :: Ws, H, o, z, h => by
    simp only [hideW] at h
    rcases hide_get Ws _ o z h with h1 | ⟨h1, h2⟩
    · exact .inl h1
    · cases hs : seesW m i ms j with
      | true =>
        rw [hs] at h1
        refine .inr ⟨h1, fun y hy hyo => ?_⟩
        rcases List.mem_cons.1 hy with rfl | hy
        · exact hs
        · exact h2 y hy hyo
      | false =>
        rw [hs] at h1
        simp only [cond_false] at h1
        by_cases ho : o' = o
        · subst ho
          rw [List.getElem?_set_self' ] at h1
          simp only [Option.map_eq_map, Option.map_eq_some_iff] at h1
          obtain ⟨_, _, h4⟩ := h1
          exact .inl h4.symm
        · rw [List.getElem?_set_ne ho] at h1
          refine .inr ⟨h1, fun y hy hyo => ?_⟩
          rcases List.mem_cons.1 hy with rfl | hy
          · exact (ho hyo).elim
          · exact h2 y hy hyo
/-- What an operation sees is so, whatever else is done. -/
theorem view_sub {p : Nat → Bool} {m i : Nat} {ms : List Nat} {Ws : List Wr} {H : List SO} (hq : ∀ j, bitOn m j = true → p j = true) (hpi : p i = false) (hdown : ∀ j, p j = true → ∀ k, bitOn (ms.getD j 0) k = true → p k = true) :
    ∀ (o : Nat) (z : SO), (viewW m i ms Ws H)[o]? = some z → z = .dead ∨ (baseW p Ws H)[o]? = some z := fun o z h => by
  rcases hide_get Ws _ o z h with h1 | ⟨h1, h2⟩
  · exact .inl h1
  · refine .inr (Eq.trans (base_congr Ws H H (fun y hy hyo => ?_) rfl rfl) h1)
    have hs := h2 y hy hyo
    unfold seesW at hs
    cases hb : bitOn m y.1 with
    | true => exact hq _ hb
    | false =>
      rw [hb, Bool.false_or, Bool.or_eq_true] at hs
      cases hp : p y.1 with
      | false => rfl
      | true =>
        exfalso
        rcases hs with hs | hs
        · rw [hdown _ hp _ hs] at hpi; cases hpi
        · rw [Nat.eq_of_beq_eq_true hs] at hp; rw [hp] at hpi; cases hpi
theorem okWs_split {ms : List Nat} : ∀ {A : List Wr} {y : Wr} {B : List Wr}, okWs ms (A ++ y :: B) = true → ∀ z ∈ B, y.1 < z.1 ∧ (y.2.1 = z.2.1 → bitOn (ms.getD z.1 0) y.1 = true)
  | [], (j, o, X), B, h, z, hz => by
    simp only [List.nil_append, okWs, Bool.and_eq_true] at h
    exact okW1_all h.1 z hz
  | (j, o, X) :: A, y, B, h, z, hz => by
    simp only [List.cons_append, okWs, Bool.and_eq_true] at h
    exact okWs_split (A := A) h.2 z hz
theorem okWs_old {ms : List Nat} : ∀ {A : List Wr} {y : Wr} {B : List Wr}, okWs ms (A ++ y :: B) = true → ∀ z ∈ A, z.1 < y.1
  | [], y, B, h, z, hz => by cases hz
  | (j, o, X) :: A, y, B, h, z, hz => by
    simp only [List.cons_append, okWs, Bool.and_eq_true] at h
    rcases List.mem_cons.1 hz with rfl | hz
    · exact (okW1_all h.1 y (by simp)).1
    · exact okWs_old (A := A) h.2 z hz
theorem base_same {p p' : Nat → Bool} {i : Nat} {Ws : List Wr} {H : List SO} (hp' : ∀ j, p' j = (p j || Nat.beq j i)) {o : Nat} (h : ∀ y ∈ Ws, y.1 = i → y.2.1 ≠ o) : (baseW p' Ws H)[o]? = (baseW p Ws H)[o]? :=
  base_congr Ws H H (fun y hy hyo => by
    rw [hp']
    have : Nat.beq y.1 i = false := by
      cases hb : Nat.beq y.1 i with
      | false => rfl
      | true => exact (h y hy (Nat.eq_of_beq_eq_true hb) hyo).elim
    rw [this, Bool.or_false]) rfl rfl
/-- A write, done. -/
theorem base_put {p p' : Nat → Bool} {ms : List Nat} {A B : List Wr} {i o : Nat} {X : SO} {H : List SO} (hp' : ∀ j, p' j = (p j || Nat.beq j i)) (hok : okWs ms (A ++ (i, o, X) :: B) = true) (hpi : p i = false) (hdown : ∀ j, p j = true → ∀ k, bitOn (ms.getD j 0) k = true → p k = true) (ho : o < H.length) :
    (baseW p' (A ++ (i, o, X) :: B) H)[o]? = some X ∧ ∀ o', o' ≠ o → (baseW p' (A ++ (i, o, X) :: B) H)[o']? = (baseW p (A ++ (i, o, X) :: B) H)[o']? := by
  have hx : p' i = true := by rw [hp']; simp
  have hB := okWs_split hok
  constructor
  · rw [base_app]
    simp only [baseW, hx, cond_true]
    rw [base_skip]
    · rw [List.getElem?_set_self (by rw [baseW_len]; exact ho)]
    · intro y hy hyo
      obtain ⟨h1, h2⟩ := hB y hy
      rw [hp']
      have hne : Nat.beq y.1 i = false := by
        cases hb : Nat.beq y.1 i with
        | false => rfl
        | true => have := Nat.eq_of_beq_eq_true hb; dsimp only at h1; omega
      rw [hne, Bool.or_false]
      cases hp : p y.1 with
      | false => rfl
      | true => have := hdown _ hp _ (h2 hyo.symm); rw [this] at hpi; cases hpi
  · intro o' ho'
    refine base_same hp' fun y hy hyi => ?_
    rcases List.mem_append.1 hy with hy | hy
    · have := okWs_old hok y hy; dsimp only at this; omega
    · rcases List.mem_cons.1 hy with rfl | hy
      · exact fun e => ho' e.symm
      · have := (hB y hy).1; dsimp only at this; omega

theorem hl_len {H H' : List SO} (h : H.length = H'.length) : ∀ (F : List Ent), hl H F = hl H' F
  | [] => h
  | x :: F => by rw [hl_cons, hl_cons, hl_len h F]
theorem heapR_sub2 {V G : List SO} {p q : Nat → Bool} (hlen : V.length = G.length) (hVG : ∀ (o : Nat) (z : SO), V[o]? = some z → z = .dead ∨ G[o]? = some z) (hpq : ∀ j, q j = true → p j = true) : ∀ (F : List Ent) (o : Nat) (z : SO), (heapR V q F)[o]? = some z → z = .dead ∨ (heapR G p F)[o]? = some z
  | [], o, z, h => hVG o z h
  | x :: F, o, z, h => by
    have hlF := hl_len hlen F
    rw [heapR_cons] at h ⊢
    rcases Nat.lt_or_ge o (hl V F) with h1 | h1
    · rw [List.getElem?_append_left (by rw [heapR_len]; omega)] at h ⊢
      exact heapR_sub2 hlen hVG hpq F o z h
    · rw [List.getElem?_append_right (by rw [heapR_len]; omega)] at h ⊢
      rw [heapR_len] at h ⊢
      cases hq : q x.j with
      | true => rw [hq] at h; rw [hpq _ hq, ← hlF]; exact .inr h
      | false =>
        rw [hq] at h
        simp only [cond_false, List.getElem?_map, Option.map_eq_some_iff] at h
        obtain ⟨y, h2, rfl⟩ := h
        exact .inl rfl
theorem heapR_base {V : List SO} {q : Nat → Bool} (F : List Ent) (o : Nat) (ho : o < V.length) : (heapR V q F)[o]? = V[o]? := by
  have := heapR_get (H0 := V) (p := q) F [] o ho
  simpa [heapR] using this
theorem heapR_rest {V V' : List SO} {q : Nat → Bool} (hlen : V.length = V'.length) : ∀ (F : List Ent) (o : Nat), V.length ≤ o → (heapR V q F)[o]? = (heapR V' q F)[o]?
  | [], o, h => by rw [show heapR V q [] = V from rfl, show heapR V' q [] = V' from rfl, List.getElem?_eq_none h, List.getElem?_eq_none (by omega)]
  | x :: F, o, h => by
    rw [heapR_cons, heapR_cons]
    have hlF := hl_len hlen F
    rcases Nat.lt_or_ge o (hl V F) with h1 | h1
    · rw [List.getElem?_append_left (by rw [heapR_len]; omega), List.getElem?_append_left (by rw [heapR_len]; omega)]
      exact heapR_rest hlen F o h
    · rw [List.getElem?_append_right (by rw [heapR_len]; omega), List.getElem?_append_right (by rw [heapR_len]; omega), heapR_len, heapR_len, hlF]

/-- The state when the operations that p names are done. -/
structure SB (C : Cx) (e0 : Env) (H0 : List SO) (Ws : List Wr) (F : List Ent) (p : Nat → Bool) (ρ : Rho) (a : Act) (w : World) : Prop where
  env : EnvOK ρ (envR e0 p F) a
  st : St ρ (heapR (baseW p Ws H0) p F) w
  none : ∀ o, o < ρ.length → masked H0 p F o = true → ρ[o]? = some none
  pre : C.ρ.length ≤ H0.length
  ev : Ev C.ρ C.H C.w ρ (heapR (baseW p Ws H0) p F) w
  sz : a.tmps.size = C.nt
  df : Mk C ρ (heapR (baseW p Ws H0) p F) w a.defers
/-- What one operation of the region does to the base. -/
inductive Chg (V V' G G' : List SO) : Prop
  | same (h1 : V' = V) (h2 : ∀ o : Nat, G'[o]? = G[o]?)
  | put (o : Nat) (X z0 : SO) (h1 : V' = V.set o X) (h2 : V[o]? = some z0) (h3 : z0.own = true) (h4 : X.own = true) (h5 : G'[o]? = some X) (h6 : ∀ o', o' ≠ o → G'[o']? = G[o']?)
section step
variable {C : Cx} {e0 : Env} {H0 V V' : List SO} {Ws : List Wr} {F newer older : List Ent} {x : Ent} {p q p' : Nat → Bool} {ρ : Rho} {a : Act} {w : World}
theorem weak_getB (hF : F = newer ++ older) (hVl : V.length = H0.length) (hV : ∀ (o : Nat) (z : SO), V[o]? = some z → z = .dead ∨ (baseW p Ws H0)[o]? = some z) (hq : ∀ j, q j = true → p j = true) {o : Nat} {z : SO} (h : (heapR V q older)[o]? = some z) : o < hl H0 older ∧ (z = .dead ∨ (heapR (baseW p Ws H0) p F)[o]? = some z) := by
  have hlt : o < hl H0 older := by rw [← hl_len hVl older, ← heapR_len (H0 := V) (p := q)]; exact (List.getElem?_eq_some_iff.1 h).1
  refine ⟨hlt, ?_⟩
  subst hF
  rw [heapR_get newer older o (by rw [hl_len (baseW_len Ws H0)]; exact hlt)]
  exact heapR_sub2 (by rw [hVl, baseW_len]) hV hq older o z h
theorem weak_envB (hs : SB C e0 H0 Ws F p ρ a w) (hf : Fine e0 H0 F) (hF : F = newer ++ older) (hq : ∀ j, q j = true → p j = true) (hn : ∀ y ∈ newer, q y.j = false) : EnvOK (ρ.take (hl H0 older)) (envR e0 q older) a := by
  intro t v h
  subst hF
  refine Rep.take _ _ (envR_inb hf.tail t v h) (hs.env t v (envR_sub hf hq t v ?_))
  rw [envR_cut newer older hn]; exact h
theorem inb_older (hf : Fine e0 H0 (newer ++ older)) (hVl : V.length = H0.length) (hVi : inbH (hl H0 older) V = true) {o : Nat} {z : SO} (h : (heapR V q older)[o]? = some z) : z.inb (hl H0 older) = true := by
  rcases Nat.lt_or_ge o V.length with h1 | h1
  · rw [heapR_base older o h1] at h
    exact inbH_get hVi o z h
  · rw [heapR_rest hVl older o h1] at h
    exact heapR_inb hf.tail o z h
theorem weak_stB (hs : SB C e0 H0 Ws F p ρ a w) (hf : Fine e0 H0 F) (hF : F = newer ++ older) (hVl : V.length = H0.length) (hV : ∀ (o : Nat) (z : SO), V[o]? = some z → z = .dead ∨ (baseW p Ws H0)[o]? = some z) (hVi : inbH (hl H0 older) V = true) (hq : ∀ j, q j = true → p j = true) : St (ρ.take (hl H0 older)) (heapR V q older) w := by
  have hlen : ρ.length = hl H0 F := by rw [hs.st.len, heapR_len, hl_len (baseW_len Ws H0)]
  have hle : hl H0 older ≤ hl H0 F := by subst hF; exact hl_le newer older
  have wg := fun {o : Nat} {z : SO} (h : (heapR V q older)[o]? = some z) => weak_getB (p := p) hF hVl hV hq h
  refine ⟨by rw [heapR_len, List.length_take, hl_len hVl older]; omega, fun o z io hz hio => ?_, fun o o' I I' z z' q1 q2 q3 q4 q5 q6 q7 => ?_, fun o o' I I' z z' q1 q2 q3 q4 q5 q6 q7 q8 => ?_⟩
  · rcases (wg hz).2 with rfl | h2
    · trivial
    · have hb : z.inb (hl H0 older) = true := by subst hF; exact inb_older hf hVl hVi hz
      exact (hs.st.ok o z io h2 (take_of hio).1).take hb
  · have n1 : z ≠ .dead := fun e => by subst e; cases q5
    have n2 : z' ≠ .dead := fun e => by subst e; cases q6
    exact hs.st.inj o o' I I' z z' (take_of q1).1 (take_of q2).1 ((wg q3).2.resolve_left n1) ((wg q4).2.resolve_left n2) q5 q6 q7
  · have n1 : z ≠ .dead := fun e => by subst e; cases q5
    exact hs.st.ro o o' I I' z z' (take_of q1).1 (take_of q2).1 ((wg q3).2.resolve_left n1) ((wg q4).2.resolve_left (fun e => q7 e)) q5 q6 q7 q8
end step
end Go.Sx

set_option linter.unusedVariables false
set_option linter.unusedSimpArgs false
namespace Go.Sx
open Go Go.RowKit
section
variable {C : Cx} {e0 : Env} {H0 V V' : List SO} {Ws : List Wr} {F newer older : List Ent} {x : Ent} {p q p' : Nat → Bool} {ρ : Rho} {a : Act} {w : World}
theorem step_sb (hs : SB C e0 H0 Ws F p ρ a w) (hf : Fine e0 H0 F) (hF : F = newer ++ x :: older) (hVl : V.length = H0.length) (hV : ∀ (o : Nat) (z : SO), V[o]? = some z → z = .dead ∨ (baseW p Ws H0)[o]? = some z) (hVi : inbH (hl H0 older) V = true) (hc : Chg V V' (baseW p Ws H0) (baseW p' Ws H0))
    (hq : ∀ j, q j = true → p j = true) (hp' : ∀ j, p' j = (p j || Nat.beq j x.j)) (hp : p x.j = false)
    (hdst : dstOK x.d C.nt = true) {ρ1 : Rho} {w' : World} {v : Value} (hv : Rep ρ1 x.V v) (h1 : St ρ1 (heapR V' q older ++ x.N) w') (hev : Ev (ρ.take (hl H0 older)) (heapR V q older) w ρ1 (heapR V' q older ++ x.N) w') :
    ∃ ρ', SB C e0 H0 Ws F p' ρ' (a.put x.d v) w' := by
  have hlG : (baseW p Ws H0).length = H0.length := baseW_len _ _
  have hlG' : (baseW p' Ws H0).length = H0.length := baseW_len _ _
  have hV'l : V'.length = H0.length := by rcases hc with ⟨rfl, _⟩ | ⟨o, X, z0, rfl, _, _, _, _, _⟩ <;> simp [hVl]
  have hlen : ρ.length = hl H0 F := by rw [hs.st.len, heapR_len, hl_len hlG]
  have hle : hl H0 (x :: older) ≤ hl H0 F := by subst hF; exact hl_le newer _
  have hle0 : hl H0 (x :: older) = hl H0 older + x.N.length := hl_cons _ _
  have hlV : hl V older = hl H0 older := hl_len hVl _
  have hlV' : hl V' older = hl H0 older := hl_len hV'l _
  have hbo : H0.length ≤ hl H0 older := hl_base older
  have hlen1 : ρ1.length = hl H0 (x :: older) := by rw [h1.len, List.length_append, heapR_len, hl_cons, hlV']
  have wg := fun {o : Nat} {z : SO} (h : (heapR V q older)[o]? = some z) => weak_getB (p := p) (newer := newer ++ [x]) (F := F) (by simp [hF]) hVl hV hq h
  have hx' : p' x.j = true := by rw [hp']; simp
  have hne : ∀ y : Ent, y.j ≠ x.j → p y.j = p' y.j := by
    intro y hy
    rw [hp']
    have : Nat.beq y.j x.j = false := by
      cases hb : Nat.beq y.j x.j with
      | false => rfl
      | true => exact (hy (Nat.eq_of_beq_eq_true hb)).elim
    rw [this, Bool.or_false]
  have hf' : Fine e0 H0 (newer ++ x :: older) := hF ▸ hf
  have hold : ∀ y ∈ older, p y.j = p' y.j := fun y hy => hne y (by have := hf'.old y hy; omega)
  have hnew : ∀ y ∈ newer, p y.j = p' y.j := fun y hy => hne y (by have := hf'.new y hy; omega)
  -- the knowledge
  let ρ' : Rho := ρ1 ++ ρ.drop (hl H0 (x :: older))
  have hlen' : ρ'.length = hl H0 F := by simp [ρ', hlen1]; omega
  have gLow : ∀ o, o < hl H0 older → ρ'[o]? = ρ[o]? := by
    intro o ho
    obtain ⟨m, hm⟩ := hev.pre
    have e1 : ρ'[o]? = ρ1[o]? := List.getElem?_append_left (by omega)
    rw [e1, ← hm, List.getElem?_append_left (by rw [List.length_take]; omega), List.getElem?_take, if_pos ho]
  have gMid : ∀ o, o < hl H0 (x :: older) → ρ'[o]? = ρ1[o]? := fun o ho => List.getElem?_append_left (by omega)
  have gHigh : ∀ o, hl H0 (x :: older) ≤ o → ρ'[o]? = ρ[o]? := by
    intro o ho
    have e1 : ρ'[o]? = (ρ.drop (hl H0 (x :: older)))[o - ρ1.length]? := List.getElem?_append_right (by omega)
    rw [e1, List.getElem?_drop]
    congr 1
    omega
  have gSlot : ∀ k, k < x.N.length → ρ[hl H0 older + k]? = some none := by
    intro k hk
    refine hs.none _ (by omega) ?_
    rw [hF, masked_get newer (x :: older) _ (by omega)]
    simp only [masked]
    rw [if_neg (by omega), hp]; rfl
  have hext : Ext ρ ρ' := by
    intro o I ho
    rcases Nat.lt_or_ge o (hl H0 older) with h | h
    · rw [gLow o h]; exact ho
    · rcases Nat.lt_or_ge o (hl H0 (x :: older)) with h2 | h2
      · exfalso
        have := gSlot (o - hl H0 older) (by omega)
        have e1 : hl H0 older + (o - hl H0 older) = o := by omega
        rw [e1, ho] at this
        cases this
      · rw [gHigh o h2]; exact ho
  have hext1 : Ext ρ1 ρ' := Ext.append _ _
  -- the old part of the heap: as it was, but for what was written
  have baseCase : ∀ (o : Nat) (z : SO), (heapR (baseW p' Ws H0) p F)[o]? = some z → ((heapR (baseW p Ws H0) p F)[o]? = some z ∧ (heapR V' q older)[o]? = (heapR V q older)[o]?) ∨
      (o < hl H0 older ∧ z.own = true ∧ (heapR V' q older)[o]? = some z ∧ ∃ z0, z0.own = true ∧ (heapR (baseW p Ws H0) p F)[o]? = some z0 ∧ (heapR V q older)[o]? = some z0) := by
    intro o z h
    rcases Nat.lt_or_ge o H0.length with ho | ho
    · rw [heapR_base F o (by omega)] at h
      rw [heapR_base F o (by omega), heapR_base older o (by omega), heapR_base older o (by omega)]
      rcases hc with ⟨e1, e2⟩ | ⟨o', X, z0, e1, e2, e3, e4, e5, e6⟩
      · exact .inl ⟨by rw [← e2]; exact h, by rw [e1]⟩
      · by_cases hoo : o = o'
        · subst hoo
          rw [e5] at h
          simp only [Option.some.injEq] at h
          subst h
          refine .inr ⟨by omega, e4, by rw [e1, List.getElem?_set_self (by omega)], z0, e3, ?_, e2⟩
          exact (hV o z0 e2).resolve_left (fun e => by subst e; cases e3)
        · exact .inl ⟨by rw [← e6 o hoo]; exact h, by rw [e1, List.getElem?_set_ne (Ne.symm hoo)]⟩
    · refine .inl ⟨?_, heapR_rest (by omega) older o (by omega)⟩
      rw [heapR_rest (V' := baseW p Ws H0) (by omega) F o (by omega)] at h
      exact h
  -- lookups of the new heap
  have lookup : ∀ (o : Nat) (z : SO), (heapR (baseW p' Ws H0) p' F)[o]? = some z → (∃ k, k < x.N.length ∧ o = hl H0 older + k ∧ x.N[k]? = some z) ∨ (((heapR (baseW p Ws H0) p F)[o]? = some z ∧ (heapR V' q older)[o]? = (heapR V q older)[o]? ∨
      (o < hl H0 older ∧ z.own = true ∧ (heapR V' q older)[o]? = some z ∧ ∃ z0, z0.own = true ∧ (heapR (baseW p Ws H0) p F)[o]? = some z0 ∧ (heapR V q older)[o]? = some z0)) ∧ ρ'[o]? = ρ[o]? ∧ (o < hl H0 older ∨ hl H0 (x :: older) ≤ o)) := by
    intro o z h
    have hm : hl (baseW p' Ws H0) older = hl H0 older := hl_len hlG' _
    have hm2 : hl (baseW p' Ws H0) (x :: older) = hl H0 (x :: older) := hl_len hlG' _
    rw [hF] at h
    rcases heapR_split newer x older o z h with h2 | ⟨k, h2, h3, h4⟩ | h2
    · rw [hm] at h2
      refine .inr ⟨baseCase o z ?_, gLow o h2, .inl h2⟩
      have e1 : newer ++ x :: older = (newer ++ [x]) ++ older := by simp
      rw [e1] at h
      rw [hF, e1, heapR_get (newer ++ [x]) older o (by omega), heapR_congr hold]
      rw [heapR_get (newer ++ [x]) older o (by omega)] at h
      exact h
    · rw [hx'] at h4
      exact .inl ⟨k, h3, by omega, h4⟩
    · rw [hm2] at h2
      refine .inr ⟨baseCase o z ?_, gHigh o h2, .inr h2⟩
      rw [hF, heapR_far x older newer o (by omega) hnew]
      exact h
  have slot1 : ∀ k z, x.N[k]? = some z → (heapR V' q older ++ x.N)[hl H0 older + k]? = some z := by
    intro k z h
    rw [List.getElem?_append_right (by rw [heapR_len]; omega), heapR_len]
    have : hl H0 older + k - hl V' older = k := by omega
    rw [this]; exact h
  have nd : ∀ z : SO, z.own = true → z ≠ .dead := fun z hz e => by subst e; cases hz
  -- an object, as it was
  have was : ∀ (o : Nat) (z : SO), ((heapR (baseW p Ws H0) p F)[o]? = some z ∧ (heapR V' q older)[o]? = (heapR V q older)[o]? ∨
      (o < hl H0 older ∧ z.own = true ∧ (heapR V' q older)[o]? = some z ∧ ∃ z0, z0.own = true ∧ (heapR (baseW p Ws H0) p F)[o]? = some z0 ∧ (heapR V q older)[o]? = some z0)) → ∃ z0, z0.own = z.own ∧ (heapR (baseW p Ws H0) p F)[o]? = some z0 ∧ (z ≠ .dead → z0 ≠ .dead) := by
    rintro o z (⟨h2, _⟩ | ⟨_, h2, _, z0, h3, h4, _⟩)
    · exact ⟨z, rfl, h2, id⟩
    · exact ⟨z0, by rw [h2, h3], h4, fun _ => nd z0 h3⟩
  -- own objects of the view stay own
  have stays : ∀ (o : Nat) (z2 : SO), o < hl H0 older → (heapR V q older)[o]? = some z2 → z2.own = true → ∃ z3, (heapR V' q older)[o]? = some z3 ∧ z3.own = true := by
    intro o z2 ho h2 h3
    rcases hc with ⟨e1, e2⟩ | ⟨o', X, z0, e1, e2, e3, e4, e5, e6⟩
    · exact ⟨z2, by rw [e1]; exact h2, h3⟩
    · rcases Nat.lt_or_ge o H0.length with hlo | hlo
      · by_cases hoo : o = o'
        · subst hoo
          exact ⟨X, by rw [heapR_base older o (by omega), e1, List.getElem?_set_self (by omega)], e4⟩
        · exact ⟨z2, by rw [heapR_base older o (by omega), e1, List.getElem?_set_ne (Ne.symm hoo)]; rw [heapR_base older o (by omega)] at h2; exact h2, h3⟩
      · exact ⟨z2, by rw [heapR_rest (by omega : V'.length = V.length) older o (by omega)]; exact h2, h3⟩
  -- own blocks of the weak state, in the whole one
  have hown0 : ∀ b, OwnB (ρ.take (hl H0 older)) (heapR V q older) b → ∃ (o : Nat) (I : Info) (z : SO), o < hl H0 older ∧ ρ[o]? = some (some I) ∧ (heapR V q older)[o]? = some z ∧ (heapR (baseW p Ws H0) p F)[o]? = some z ∧ z.own = true ∧ I.b = b := by
    rintro b ⟨o, I, z, r1, r2, r3, r4⟩
    obtain ⟨k1, k2⟩ := wg r2
    exact ⟨o, I, z, k1, (take_of r1).1, r2, k2.resolve_left (nd z r3), r3, r4⟩
  have hltOld : ∀ (o : Nat) (z : SO) (I : Info), (heapR (baseW p Ws H0) p F)[o]? = some z → ρ[o]? = some (some I) → z ≠ .dead → I.b < w.heap.size := fun o z I k1 k2 k3 => hs.st.fresh_free k2 k1 k3
  have oldnew : ∀ (o k : Nat) (z y : SO) (I I' : Info), (heapR (baseW p Ws H0) p F)[o]? = some z → ρ[o]? = some (some I) → ρ'[o]? = ρ[o]? → z.own = true → x.N[k]? = some y → ρ1[hl H0 older + k]? = some (some I') → y.own = true → I.b = I'.b → (o < hl H0 older ∨ hl H0 (x :: older) ≤ o) → False := by
    intro o k z y I I' k1 k2 k3 k4 k5 k6 k7 k8 k9
    have hb : OwnB ρ1 (heapR V' q older ++ x.N) I'.b := ⟨_, I', y, k6, slot1 k y k5, k7, rfl⟩
    rcases hev.own _ hb with hb | hb
    · obtain ⟨o2, I2, z2, m1, m2, m3, m4, m5, m6⟩ := hown0 _ hb
      have := hs.st.inj o o2 I I2 z z2 k2 m2 k1 m4 k4 m5 (by rw [k8, m6])
      subst this
      have e1 : ρ1[o]? = some (some I) := by rw [← gMid o (by omega), k3]; exact k2
      obtain ⟨z3, s1, s2⟩ := stays o z2 m1 m3 m5
      have := h1.inj o (hl H0 older + k) I I' z3 y e1 k6 (by rw [List.getElem?_append_left (by rw [heapR_len]; omega)]; exact s1) (slot1 k y k5) s2 k7 k8
      omega
    · have := hltOld o z I k1 k2 (nd z k4)
      omega
  have hst : St ρ' (heapR (baseW p' Ws H0) p' F) w' := by
    refine ⟨by rw [hlen', heapR_len, hl_len hlG'], fun o z io hz hio => ?_, fun o o' I I' z z' q1 q2 q3 q4 q5 q6 q7 => ?_, fun o o' I I' z z' q1 q2 q3 q4 q5 q6 q7 q8 => ?_⟩
    · rcases lookup o z hz with ⟨k, k1, rfl, k3⟩ | ⟨⟨k1, k1b⟩ | ⟨k1, kz, k1b, z0, k1c⟩, k2, k3⟩
      · rw [gMid _ (by omega)] at hio
        exact (h1.ok _ z io (slot1 k z k3) hio).keep hext1 (Nat.le_refl _) (fun _ _ _ _ => rfl)
      · rw [k2] at hio
        by_cases hlive : o < hl H0 older ∧ (heapR V q older)[o]? = some z
        · have e1 : ρ1[o]? = some io := by rw [← gMid o (by omega), k2]; exact hio
          exact (h1.ok o z io (by rw [List.getElem?_append_left (by rw [heapR_len]; omega), k1b]; exact hlive.2) e1).keep hext1 (Nat.le_refl _) (fun _ _ _ _ => rfl)
        · refine (hs.st.ok o z io k1 hio).keep hext hev.size (fun I hI hd hlt => ?_)
          subst hI
          refine hev.block _ hlt (fun hb => ?_)
          obtain ⟨o2, I2, z2, m1, m2, m3, m4, m5, m6⟩ := hown0 _ hb
          cases hz2 : z.own with
          | true =>
            have := hs.st.inj o o2 I I2 z z2 hio m2 k1 m4 hz2 m5 (by rw [m6])
            subst this
            rw [k1] at m4
            simp only [Option.some.injEq] at m4
            subst m4
            exact hlive ⟨m1, m3⟩
          | false => exact hs.st.ro o2 o I2 I z2 z m2 hio m4 k1 m5 hz2 (fun e => hd e) m6
      · have e1 : ρ1[o]? = some io := by rw [← gMid o (by omega)]; exact hio
        exact (h1.ok o z io (by rw [List.getElem?_append_left (by rw [heapR_len]; omega)]; exact k1b) e1).keep hext1 (Nat.le_refl _) (fun _ _ _ _ => rfl)
    · rcases lookup o z q3 with ⟨k, k1, rfl, k3⟩ | ⟨k1, k2, k3⟩ <;> rcases lookup o' z' q4 with ⟨k', k1', rfl, k3'⟩ | ⟨k1', k2', k3'⟩
      · rw [gMid _ (by omega)] at q1 q2
        exact h1.inj _ _ I I' z z' q1 q2 (slot1 k z k3) (slot1 k' z' k3') q5 q6 q7
      · rw [gMid _ (by omega)] at q1
        rw [k2'] at q2
        obtain ⟨y', u1, u2, _⟩ := was o' z' k1'
        exact (oldnew o' k y' z I' I u2 q2 k2' (u1.trans q6) k3 q1 q5 q7.symm k3').elim
      · rw [gMid _ (by omega)] at q2
        rw [k2] at q1
        obtain ⟨y, u1, u2, _⟩ := was o z k1
        exact (oldnew o k' y z' I I' u2 q1 k2 (u1.trans q5) k3' q2 q6 q7 k3).elim
      · rw [k2] at q1
        rw [k2'] at q2
        obtain ⟨y, u1, u2, _⟩ := was o z k1
        obtain ⟨y', u1', u2', _⟩ := was o' z' k1'
        exact hs.st.inj o o' I I' y y' q1 q2 u2 u2' (u1.trans q5) (u1'.trans q6) q7
    · rcases lookup o' z' q4 with ⟨k', k1', rfl, k3'⟩ | ⟨k1', k2', k3'⟩
      · rcases allOwn_get (hf.own newer x older hF) k' z' k3' with r | r
        · exact q7 r
        · rw [q6] at r; cases r
      · rw [k2'] at q2
        obtain ⟨y', u1', u2', u3'⟩ := was o' z' k1'
        rcases lookup o z q3 with ⟨k, k1, rfl, k3⟩ | ⟨k1, k2, k3⟩
        · rw [gMid _ (by omega)] at q1
          have hb : OwnB ρ1 (heapR V' q older ++ x.N) I.b := ⟨_, I, z, q1, slot1 k z k3, q5, rfl⟩
          rcases hev.own _ hb with hb | hb
          · obtain ⟨o2, I2, z2, m1, m2, m3, m4, m5, m6⟩ := hown0 _ hb
            exact hs.st.ro o2 o' I2 I' z2 y' m2 q2 m4 u2' m5 (u1'.trans q6) (u3' q7) (m6.trans q8)
          · have := hltOld o' y' I' u2' q2 (u3' q7)
            omega
        · rw [k2] at q1
          obtain ⟨y, u1, u2, _⟩ := was o z k1
          exact hs.st.ro o o' I I' y y' q1 q2 u2 u2' (u1.trans q5) (u1'.trans q6) (u3' q7) q8
  have hOwnOld : ∀ b, OwnB ρ' (heapR (baseW p' Ws H0) p' F) b → OwnB ρ (heapR (baseW p Ws H0) p F) b ∨ (∃ k I z, ρ1[hl H0 older + k]? = some (some I) ∧ x.N[k]? = some z ∧ z.own = true ∧ I.b = b) := by
    rintro b ⟨o, I, z, r1, r2, r3, r4⟩
    rcases lookup o z r2 with ⟨k, k1, rfl, k3⟩ | ⟨k1, k2, k3⟩
    · rw [gMid _ (by omega)] at r1
      exact .inr ⟨k, I, z, r1, k3, r3, r4⟩
    · rw [k2] at r1
      obtain ⟨y, u1, u2, _⟩ := was o z k1
      exact .inl ⟨o, I, y, r1, u2, u1.trans r3, r4⟩
  refine ⟨ρ', ⟨fun t u hu => ?_, hst, fun o ho hm => ?_, hs.pre, ⟨?_, Nat.le_trans hs.ev.size hev.size, hev.os.trans hs.ev.os, hev.tape.trans hs.ev.tape, hev.output.trans hs.ev.output, fun b hb hno => ?_, fun b hb => ?_⟩, ?_, ?_⟩⟩
  · have h2 := envR_put (p' := p') hf' hp' hp t u (hF ▸ hu)
    have h3 : EnvOK ρ' (putO (envR e0 p F) x.d x.V) (a.put x.d v) := (hs.env.ext hext).put (Rep.ext hext1 _ _ hv) x.d (fun t ht => by rw [hs.sz]; exact dstOK_lt hdst t ht)
    rw [← hF] at h2
    exact h3 t u h2
  · have ho' : o < ρ.length := by omega
    rcases Nat.lt_or_ge o (hl H0 older) with h | h
    · rw [gLow o h]
      refine hs.none o ho' ?_
      have e1 : newer ++ x :: older = (newer ++ [x]) ++ older := by simp
      rw [hF, e1, masked_get _ older o h] at hm ⊢
      have gen : ∀ (G : List Ent), (∀ y ∈ G, p y.j = p' y.j) → masked H0 p G o = masked H0 p' G o := by
        intro G
        induction G with
        | nil => intro _; rfl
        | cons y G ih => intro hG; simp only [masked]; rw [hG y (by simp), ih (fun z hz => hG z (by simp [hz]))]
      rw [gen older hold]; exact hm
    · rcases Nat.lt_or_ge o (hl H0 (x :: older)) with h2 | h2
      · exfalso
        rw [hF, masked_get newer (x :: older) o h2] at hm
        simp only [masked] at hm
        rw [if_neg (by omega), hx'] at hm
        cases hm
      · rw [gHigh o h2]
        refine hs.none o ho' ?_
        rw [hF] at hm ⊢
        rw [masked_far x older newer o h2 hnew (by rw [← hF]; omega)]
        exact hm
  · obtain ⟨m, hm⟩ := hs.ev.pre
    refine ⟨ρ'.drop C.ρ.length, ?_⟩
    have : C.ρ = ρ'.take C.ρ.length := by
      apply List.ext_getElem?
      intro i
      rw [List.getElem?_take]
      split
      · rename_i hi
        have := hs.pre
        rw [gLow i (by omega), ← hm, List.getElem?_append_left hi]
      · rename_i hi
        rw [List.getElem?_eq_none (by omega)]
    exact (congrArg (· ++ ρ'.drop C.ρ.length) this).trans (List.take_append_drop _ _)
  · refine (hev.block b (Nat.lt_of_lt_of_le hb hs.ev.size) (fun hc => ?_)).trans (hs.ev.block b hb hno)
    obtain ⟨o2, I2, z2, m1, m2, m3, m4, m5, m6⟩ := hown0 _ hc
    rcases hs.ev.own b ⟨o2, I2, z2, m2, m4, m5, m6⟩ with r | r
    · exact hno r
    · omega
  · rcases hOwnOld b hb with hb | ⟨k, I, z, r1, k3, r3, r4⟩
    · exact hs.ev.own b hb
    · rcases hev.own b ⟨_, I, z, r1, slot1 k z k3, r3, r4⟩ with hb | hb
      · obtain ⟨o2, I2, z2, m1, m2, m3, m4, m5, m6⟩ := hown0 _ hb
        exact hs.ev.own b ⟨o2, I2, z2, m2, m4, m5, m6⟩
      · exact .inr (Nat.le_trans hs.ev.size hb)
  · have := hs.sz
    cases x.d <;> simp [Act.put, this]
  · have hdf : Mk C ρ' (heapR (baseW p' Ws H0) p' F) w' a.defers := by
      obtain ⟨rs, d1, d2, d3⟩ := hs.df
      refine ⟨rs, d1, d2, fun r hr => ?_⟩
      obtain ⟨f1, f2, f3⟩ := d3 r hr
      have hlt := (Array.getElem?_eq_some_iff.1 f2).1
      have hw : ¬ OwnB (ρ.take (hl H0 older)) (heapR V q older) r := fun hc => by
        obtain ⟨o2, I2, z2, m1, m2, m3, m4, m5, m6⟩ := hown0 _ hc
        exact f3 ⟨o2, I2, z2, m2, m4, m5, m6⟩
      refine ⟨f1, (hev.block r hlt hw).trans f2, fun hb => ?_⟩
      rcases hOwnOld r hb with hb | ⟨k, I, z, r1, k3, r3, r4⟩
      · exact f3 hb
      · rcases hev.own r ⟨_, I, z, r1, slot1 k z k3, r3, r4⟩ with hb | hb
        · exact hw hb
        · omega
    cases x.d <;> exact hdf
end
end Go.Sx

set_option linter.unusedVariables false
set_option linter.unusedSimpArgs false
namespace Go.Sx
open Go Go.RowKit
theorem baseW_congr {p q : Nat → Bool} : ∀ (Ws : List Wr) (H : List SO), (∀ y ∈ Ws, p y.1 = q y.1) → baseW p Ws H = baseW q Ws H
  | [], H, _ => rfl
  | (j, o, X) :: Ws, H, h => by simp only [baseW]; rw [h _ (List.mem_cons_self ..)]; exact baseW_congr Ws _ (fun y hy => h y (List.mem_cons_of_mem _ hy))
structure StepB (P : Program) (C : Cx) (ops : Array Oper) (e0 : Env) (H0 : List SO) (ms : List Nat) (Ws : List Wr) (m : Nat) (o : Oper) (acc : List Ent) (V : SV) (N : List SO) : Prop where
  dst : dstOK o.dst C.nt = true
  fresh : freshD (envR e0 always acc) o.dst
  inbV : V.inb (hl H0 acc + N.length) = true
  inbN : inbH (hl H0 acc + N.length) N = true
  own : allOwn N = true
  inbB : inbH (hl H0 acc) (viewW m acc.length ms Ws H0) = true
  does : (Wants ops C.nt o (envR e0 (bitOn m) acc) true ∧ ∃ U', ((U' = viewW m acc.length ms Ws H0 ∧ ∀ y ∈ Ws, y.1 ≠ acc.length) ∨
        ∃ A B o1 X z0, Ws = A ++ (acc.length, o1, X) :: B ∧ U' = (viewW m acc.length ms Ws H0).set o1 X ∧ (viewW m acc.length ms Ws H0)[o1]? = some z0 ∧ z0.own = true ∧ X.own = true) ∧
      OpDo P C.r o (envR e0 (bitOn m) acc) (heapR (viewW m acc.length ms Ws H0) (bitOn m) acc) fun s H' => s = V ∧ H' = heapR U' (bitOn m) acc ++ N) ∨
    (Wants ops C.nt o (envR e0 (bitOn m) acc) false ∧ V = .val undef ∧ N = [] ∧ ∀ y ∈ Ws, y.1 ≠ acc.length)
def RBf (P : Program) (C : Cx) (ops : Array Oper) (e0 : Env) (H0 : List SO) (ms0 : List Nat) (Ws : List Wr) (Fin : List Oper → List Ent → Prop) : List Nat → List Oper → List Ent → Prop
  | [], l, acc => Fin l acc
  | m :: ms, o :: l, acc => ∃ V N, StepB P C ops e0 H0 ms0 Ws m o acc V N ∧ RBf P C ops e0 H0 ms0 Ws Fin ms l (⟨acc.length, o.dst, V, N⟩ :: acc)
  | _ :: _, [], _ => False
theorem RB_spec {P : Program} {C : Cx} {ops : Array Oper} {e0 : Env} {H0 : List SO} {ms0 : List Nat} {Ws : List Wr} {Fin : List Oper → List Ent → Prop} : ∀ {ms : List Nat} {l : List Oper} {acc : List Ent}, RBf P C ops e0 H0 ms0 Ws Fin ms l acc →
    ms.length ≤ l.length ∧ ∃ F, (∃ newer, F = newer ++ acc) ∧ F.length = acc.length + ms.length ∧ (∀ newer x older, F = newer ++ x :: older → acc.length ≤ older.length →
      ∃ m o, ms[older.length - acc.length]? = some m ∧ l[older.length - acc.length]? = some o ∧ x.j = older.length ∧ x.d = o.dst ∧ StepB P C ops e0 H0 ms0 Ws m o older x.V x.N) ∧
      Fin (l.drop ms.length) F
  | [], l, acc, h => by
    have h' : Fin l acc := by cases l <;> exact h
    refine ⟨by simp, acc, ⟨[], rfl⟩, by simp, fun newer x older h1 h2 => ?_, h'⟩
    have := congrArg List.length h1
    simp at this
    omega
  | m :: ms, o :: l, acc, h => by
    obtain ⟨V, N, h1, h2⟩ := h
    obtain ⟨h0, F, ⟨newer0, h3⟩, h4, h5, h6⟩ := RB_spec h2
    refine ⟨by simp; exact h0, F, ⟨newer0 ++ [⟨acc.length, o.dst, V, N⟩], by simp [h3]⟩, by simp at h4 ⊢; omega, fun newer x older q1 q2 => ?_, by simpa using h6⟩
    rcases Nat.eq_or_lt_of_le q2 with q3 | q3
    · have e1 : newer ++ x :: older = newer0 ++ ⟨acc.length, o.dst, V, N⟩ :: acc := by rw [← q1, h3]
      have e2 := List.append_inj' e1 (by simp; omega)
      obtain ⟨e3, e4⟩ := e2
      simp only [List.cons.injEq] at e4
      obtain ⟨rfl, rfl⟩ := e4
      exact ⟨m, o, by simp, by simp, rfl, rfl, h1⟩
    · obtain ⟨m', o', r1, r2, r3⟩ := h5 newer x older q1 (by simp; omega)
      refine ⟨m', o', ?_, ?_, r3⟩
      · have : older.length - acc.length = (older.length - (⟨acc.length, o.dst, V, N⟩ :: acc).length) + 1 := by simp; omega
        rw [this]; simpa using r1
      · have : older.length - acc.length = (older.length - (⟨acc.length, o.dst, V, N⟩ :: acc).length) + 1 := by simp; omega
        rw [this]; simpa using r2
  | _ :: _, [], _, h => h.elim
section
variable {P : Program} {C : Cx} {e0 : Env} {H0 : List SO} {Ws : List Wr} {K : Exit → Env → List SO → Prop} {ms : List Nat} {l tl : List Oper} {F : List Ent} {ops : Array Oper}
def MidB (P : Program) (C : Cx) (ops : Array Oper) (e0 : Env) (H0 : List SO) (Ws : List Wr) (F : List Ent) (tl : List Oper) (K : Exit → Env → List SO → Prop) (listed : Array Bool) (a : Act) (w : World) : Prop :=
  ((∀ i, F.length ≤ i → inL listed i = false) ∧ ∃ ρ, SB C e0 H0 Ws F (inL listed) ρ a w) ∨
  ∃ t rest, (∀ i, inL listed i = true ↔ i < F.length + t) ∧ tl.drop t = rest ∧ t ≤ tl.length ∧ wpListIn (Fr C.r) 0 P ops (PQ C K) rest a w
theorem any_sb (hops : ops = (l ++ tl).toArray) (hmask : okMask ms 0 (l ++ tl) = true) (htail : okTail ms l.length tl.length = true) (hlen : F.length = l.length) (hf : Fine e0 H0 F) (hok : okWs ms Ws = true) (hWj : ∀ y ∈ Ws, y.1 < l.length)
    (hstep : ∀ newer x older, F = newer ++ x :: older → ∃ m o, ms[older.length]? = some m ∧ l[older.length]? = some o ∧ x.j = older.length ∧ x.d = o.dst ∧ StepB P C ops e0 H0 ms Ws m o older x.V x.N)
    (hfin : RW P C ops tl (envR e0 always F) (heapR (baseW always Ws H0) always F) K) :
    ∀ (fuel : Nat) (listed : Array Bool) (a : Act) (w : World), listed.size = ops.size → (fuel + (listed.toList.filter id).length = ops.size) →
      (∀ (i : Nat) (o : Oper), ops[i]? = some o → inL listed i = true → ∀ e ∈ o.after, Region.binds .any e = true → inL listed e.on = true) →
      MidB P C ops e0 H0 Ws F tl K listed a w → wpAnyIn (Fr C.r) 0 P .any ops (PQ C K) fuel listed a w := by
  have hsize : ops.size = l.length + tl.length := by rw [hops]; simp
  -- all grown: on to the tail
  have turn : ∀ (listed : Array Bool) (a : Act) (w : World), (∀ i, inL listed i = true ↔ i < F.length) → (∃ ρ, SB C e0 H0 Ws F (inL listed) ρ a w) → wpListIn (Fr C.r) 0 P ops (PQ C K) tl a w := by
    intro listed a w hall ⟨ρ, hs⟩
    have hc : ∀ y ∈ F, inL listed y.j = always y.j := by
      intro y hy
      obtain ⟨s, t, hst⟩ := List.append_of_mem hy
      have := hf.idx s y t hst
      rw [(hall y.j).2 (by rw [this, hst]; simp; omega)]
    have hcb : baseW (inL listed) Ws H0 = baseW always Ws H0 := baseW_congr Ws H0 fun y hy => (hall y.1).2 (by have := hWj y hy; omega)
    refine hfin a w ⟨ρ, ?_, ?_, ?_, hs.sz, ?_⟩
    · rw [← envR_congr hc]; exact hs.env
    · rw [← heapR_congr hc, ← hcb]; exact hs.st
    · rw [← heapR_congr hc, ← hcb]; exact hs.ev
    · rw [← heapR_congr hc, ← hcb]; exact hs.df
  -- if nothing is ready then all is listed
  have noneReady : ∀ (listed : Array Bool), listed.size = ops.size → Region.ready .any ops listed = [] → ∀ i, i < ops.size → inL listed i = true := by
    intro listed hsz hnil i
    induction i using Nat.strongRecOn with
    | _ i ih =>
      intro hi
      cases hb : inL listed i with
      | true => rfl
      | false =>
        exfalso
        have ho : ops[i]? = some ops[i] := by simp [hi]
        have ho' : (l ++ tl)[i]? = some ops[i] := by
          have e1 : (l ++ tl)[i]? = ops[i]? := by rw [hops]; simp
          rw [e1]; exact ho
        obtain ⟨_, h2⟩ := okMask_get hmask i _ ho'
        rw [Nat.zero_add] at h2
        have hmem : i ∈ Region.ready .any ops listed := by
          rw [mem_ready]
          refine ⟨?_, ops[i], ho, fun e he hbd => ih e.on (h2 e he hbd) (Nat.lt_trans (h2 e he hbd) hi)⟩
          unfold inL at hb
          rw [Array.getD_eq_getD_getElem?] at hb ⊢
          rw [Array.getElem?_eq_getElem (by omega)] at hb ⊢
          exact hb
        rw [hnil] at hmem
        cases hmem
  have done : ∀ (listed : Array Bool) (a : Act) (w : World), listed.size = ops.size → Region.ready .any ops listed = [] → MidB P C ops e0 H0 Ws F tl K listed a w → PQ C K .normal a w := by
    intro listed a w hsz hnil hmid
    have hall := noneReady listed hsz hnil
    rcases hmid with ⟨h1, h2⟩ | ⟨t, rest, h1, h2, h3, h4⟩
    · have htl : tl = [] := by
        cases tl with
        | nil => rfl
        | cons y tl' =>
          have := h1 l.length (by omega)
          rw [hall l.length (by rw [hsize]; simp)] at this
          cases this
      have hiff : ∀ i, inL listed i = true ↔ i < F.length := by
        intro i
        constructor
        · intro hi
          rcases Nat.lt_or_ge i F.length with h | h
          · exact h
          · rw [h1 i h] at hi; cases hi
        · intro hi
          exact hall i (by omega)
      have := turn listed a w hiff h2
      rw [htl] at this
      exact this
    · have : t = tl.length := by
        rcases Nat.lt_or_ge t tl.length with h | h
        · have := (h1 (F.length + t)).1 (hall _ (by omega))
          omega
        · omega
      subst this
      simp at h2
      subst h2
      exact h4
  intro fuel
  induction fuel with
  | zero =>
    intro listed a w hsz hcount hdown hmid
    have hnil : Region.ready .any ops listed = [] := by
      cases hr : Region.ready .any ops listed with
      | nil => rfl
      | cons i rs =>
        exfalso
        have hm : i ∈ Region.ready .any ops listed := by rw [hr]; simp
        rw [mem_ready] at hm
        obtain ⟨h1, o, h2, h3⟩ := hm
        have hi : i < listed.size := by rw [hsz]; exact (Array.getElem?_eq_some_iff.1 h2).1
        have hall : ∀ b ∈ listed.toList, id b = true := by
          have hle := List.length_filter_eq_length_iff (p := id) (l := listed.toList)
          exact hle.1 (by simp; simp at hcount; omega)
        have := hall listed[i] (by simp)
        rw [Array.getD, dif_pos hi] at h1
        have h1' : listed[i] = false := h1
        rw [h1'] at this
        cases this
    exact ⟨hnil, done listed a w hsz hnil hmid⟩
  | succ fuel ih =>
    intro listed a w hsz hcount hdown hmid
    refine ⟨fun hnil => done listed a w hsz hnil hmid, fun i hi => ?_⟩
    rw [mem_ready] at hi
    obtain ⟨h1, o, ho, hready⟩ := hi
    have hlt : i < ops.size := (Array.getElem?_eq_some_iff.1 ho).1
    have hil : inL listed i = false := by
      unfold inL
      rw [Array.getD, dif_pos (by omega : i < listed.size)] at h1 ⊢
      exact h1
    have hsz' : (listed.setIfInBounds i true).size = ops.size := by simp [hsz]
    have hset := set_inL (listed := listed) (i := i) (by omega)
    have hcount' : fuel + ((listed.setIfInBounds i true).toList.filter id).length = ops.size := by
      have gen : ∀ (L : List Bool) (i : Nat), L[i]? = some false → ((L.set i true).filter id).length = (L.filter id).length + 1 := by
        intro L
        induction L with
        | nil => intro i h; simp at h
        | cons b L ihL =>
          intro i h
          cases i with
          | zero => simp at h; subst h; simp
          | succ i =>
            simp only [List.getElem?_cons_succ] at h
            have := ihL i h
            cases b <;> simp [List.filter_cons, this]
      have hg : listed.toList[i]? = some false := by
        rw [Array.getElem?_toList, Array.getElem?_eq_getElem (by omega)]
        rw [Array.getD, dif_pos (by omega : i < listed.size)] at h1
        have h1' : listed[i] = false := h1
        rw [h1']
      have := gen _ i hg
      rw [Array.toList_setIfInBounds, this]
      omega
    have hdown' : ∀ (k : Nat) (o : Oper), ops[k]? = some o → inL (listed.setIfInBounds i true) k = true → ∀ e ∈ o.after, Region.binds .any e = true → inL (listed.setIfInBounds i true) e.on = true := by
      intro k o' hk hl e he hb
      rw [hset] at hl ⊢
      by_cases hki : k = i
      · subst hki
        rw [ho] at hk
        simp only [Option.some.injEq] at hk
        subst hk
        rw [show inL listed e.on = true from hready e he hb]; rfl
      · have : Nat.beq k i = false := by
          cases hbb : Nat.beq k i with
          | false => rfl
          | true => exact (hki (Nat.eq_of_beq_eq_true hbb)).elim
        rw [this, Bool.or_false] at hl
        rw [hdown k o' hk hl e he hb]; rfl
    have hmaskIn := down hops hmask hdown i o ho hready
    have tailBits : ∀ t, i = F.length + t → t < tl.length → ∀ j, j < i → inL listed j = true := by
      intro t h2 h3 j hj
      have h4 := okTail_get htail t h3
      exact hmaskIn j (by rw [h2, hlen, h4, Nat.testBit_two_pow_sub_one]; exact decide_eq_true (by omega))
    have hdownp : ∀ j, inL listed j = true → ∀ k, bitOn (ms.getD j 0) k = true → inL listed k = true := by
      intro j hj k hk
      have hjs : j < ops.size := by
        rcases Nat.lt_or_ge j listed.size with h | h
        · omega
        · unfold inL at hj; rw [Array.getD, dif_neg (by omega)] at hj; cases hj
      have hoj : ops[j]? = some ops[j] := by simp [hjs]
      exact down hops hmask hdown j _ hoj (fun e he hb => hdown j _ hoj hj e he hb) k (by rw [← bitOn_test]; exact hk)
    -- one of the tail's
    have tailStep : ∀ t rest, (∀ j, inL listed j = true ↔ j < F.length + t) → tl.drop t = rest → t ≤ tl.length → wpListIn (Fr C.r) 0 P ops (PQ C K) rest a w → F.length ≤ i →
        wpOpIn (Fr C.r) 0 P ops (PQ C K) i (wpAnyIn (Fr C.r) 0 P .any ops (PQ C K) fuel (listed.setIfInBounds i true)) a w := by
      intro t rest h2 h3 h4 h5 h6
      have hit : i = F.length + t := by
        have q1 : ¬ i < F.length + t := fun hc => by rw [(h2 i).2 hc] at hil; cases hil
        rcases Nat.eq_or_lt_of_le (Nat.le_of_not_lt q1) with q2 | q2
        · exact q2.symm
        · exfalso
          have := (h2 _).1 (tailBits (i - F.length) (by omega) (by omega) (F.length + t) q2)
          omega
      have htl : t < tl.length := by omega
      have hrest : rest = o :: tl.drop (t + 1) := by
        rw [← h3, List.drop_eq_getElem_cons htl]
        congr 1
        have : (l ++ tl)[i]? = some o := by rw [hops] at ho; simpa using ho
        rw [hit, hlen, List.getElem?_append_right (by omega)] at this
        have e1 : l.length + t - l.length = t := by omega
        rw [e1, List.getElem?_eq_getElem htl] at this
        simpa using this
      rw [hrest] at h5
      have goon : ∀ a w, wpListIn (Fr C.r) 0 P ops (PQ C K) (tl.drop (t + 1)) a w → wpAnyIn (Fr C.r) 0 P .any ops (PQ C K) fuel (listed.setIfInBounds i true) a w := by
        intro a w hh
        refine ih _ a w hsz' hcount' hdown' (.inr ⟨t + 1, _, fun j => ?_, rfl, by omega, hh⟩)
        rw [hset, Bool.or_eq_true, h2 j]
        constructor
        · rintro (hj | hj)
          · omega
          · have := Nat.eq_of_beq_eq_true hj; omega
        · intro hj
          rcases Nat.lt_or_ge j (F.length + t) with h | h
          · exact .inl h
          · have : j = i := by omega
            subst this; exact .inr (by simp)
      unfold wpOpIn
      simp only [ho]
      simp only [wpListIn] at h5
      split
      · rename_i hw; rw [if_pos hw] at h5; exact Oper.wpIn_mono goon h5
      · rename_i hw; rw [if_neg hw] at h5; exact ⟨h5.1, goon _ _ h5.2⟩
    rcases hmid with ⟨h2, ρ, hs⟩ | ⟨t, rest, h2, h3, h4, h5⟩
    · rcases Nat.lt_or_ge i F.length with hiF | hiF
      · -- one of the growing part
        obtain ⟨newer, x, older, hF, hol⟩ : ∃ newer x older, F = newer ++ x :: older ∧ older.length = i := by
          have hd : F.drop (F.length - 1 - i) ≠ [] := by
            intro hc
            have := congrArg List.length hc
            simp at this
            omega
          obtain ⟨x, older, hxo⟩ := List.exists_cons_of_ne_nil hd
          refine ⟨F.take (F.length - 1 - i), x, older, by rw [← hxo]; exact (List.take_append_drop _ _).symm, ?_⟩
          have := congrArg List.length hxo
          simp at this
          omega
        obtain ⟨m, o', g1, g2, g3, g4, g5⟩ := hstep newer x older hF
        rw [hol] at g1 g2 g3
        have hoo : o' = o := by
          have q1 : (l ++ tl)[i]? = some o := by rw [hops] at ho; simpa using ho
          rw [List.getElem?_append_left (by omega), g2] at q1
          simpa using q1
        subst hoo
        have hmm : ms.getD i 0 = m := by simp [List.getD, g1]
        -- the mask, cut to what lies ahead
        have hq : ∀ j, bitOn m j = true → inL listed j = true := fun j hj => hmaskIn j (by rw [hmm, ← bitOn_test]; exact hj)
        have hcut : ∀ y ∈ newer ++ [x], bitOn m y.j = false := by
          intro y hy
          cases hb : bitOn m y.j with
          | false => rfl
          | true =>
            exfalso
            -- a bit at or past i: the mask's bits lie ahead of i
            have hbit : (ms.getD i 0).testBit y.j = true := by rw [hmm, ← bitOn_test]; exact hb
            have hless : ∀ (n : Nat), ∀ i, i ≤ n → ∀ (o : Oper), (l ++ tl)[i]? = some o → ∀ j, (ms.getD i 0).testBit j = true → j < i := by
              intro n
              induction n with
              | zero =>
                intro i hi o ho j hj
                obtain ⟨k1, k2⟩ := okMask_get hmask i o ho
                rw [Nat.zero_add] at k1 k2
                obtain ⟨e, he, hb2, _⟩ := maskUp_bit (k1 j hj)
                have := k2 e he hb2
                omega
              | succ n ihn =>
                intro i hi o ho j hj
                obtain ⟨k1, k2⟩ := okMask_get hmask i o ho
                rw [Nat.zero_add] at k1 k2
                obtain ⟨e, he, hb2, h3⟩ := maskUp_bit (k1 j hj)
                have hlt2 := k2 e he hb2
                rcases h3 with h3 | h3
                · omega
                · have hle : e.on < (l ++ tl).length := Nat.lt_trans hlt2 (List.getElem?_eq_some_iff.1 ho).1
                  have := ihn e.on (by omega) _ (List.getElem?_eq_getElem hle) j h3
                  omega
            have hlt2 := hless i i (Nat.le_refl _) o' (by rw [hops] at ho; simpa using ho) y.j hbit
            rcases List.mem_append.1 hy with hy | hy
            · have hf' : Fine e0 H0 (newer ++ x :: older) := hF ▸ hf
              have := hf'.new y hy
              omega
            · simp at hy; subst hy; omega
        have hdst : dstOK x.d C.nt = true := by rw [g4]; exact g5.dst
        have hFF : F = (newer ++ [x]) ++ older := by simp [hF]
        have hwe := weak_envB hs hf hFF hq hcut
        have hVl := viewW_len (m := m) (i := older.length) (ms := ms) Ws H0
        have hVs := view_sub (i := older.length) (p := inL listed) (Ws := Ws) (H := H0) hq (by rw [hol]; exact hil) hdownp
        have hws := weak_stB hs hf hFF hVl hVs g5.inbB hq
        have goon : ∀ U' v w', Chg (viewW m older.length ms Ws H0) U' (baseW (inL listed) Ws H0) (baseW (inL (listed.setIfInBounds i true)) Ws H0) → (∃ ρ1, Rep ρ1 x.V v ∧ St ρ1 (heapR U' (bitOn m) older ++ x.N) w' ∧ Ev (ρ.take (hl H0 older)) (heapR (viewW m older.length ms Ws H0) (bitOn m) older) w ρ1 (heapR U' (bitOn m) older ++ x.N) w') →
            wpAnyIn (Fr C.r) 0 P .any ops (PQ C K) fuel (listed.setIfInBounds i true) (a.put o'.dst v) w' := by
          rintro U' v w' hch ⟨ρ1, q1, q2, q3⟩
          have hset' : ∀ j, inL (listed.setIfInBounds i true) j = (inL listed j || Nat.beq j x.j) := fun j => by rw [hset, g3]
          obtain ⟨ρ', hs'⟩ := step_sb hs hf hF hVl hVs g5.inbB hch hq hset' (by rw [g3]; exact hil) hdst q1 q2 q3
          rw [g4] at hs'
          refine ih _ _ _ hsz' hcount' hdown' (.inl ⟨fun j hj => ?_, ρ', hs'⟩)
          rw [hset, h2 j hj]
          have : Nat.beq j i = false := by
            cases hbb : Nat.beq j i with
            | false => rfl
            | true => have := Nat.eq_of_beq_eq_true hbb; omega
          rw [this]; rfl
        unfold wpOpIn
        simp only [ho]
        rcases g5.does with ⟨w1, U', hef, w2⟩ | ⟨w1, w2, w3, w4⟩
        · rw [w1.eq hwe hs.sz]
          simp only [if_true]
          refine w2.wp' hwe hws ?_
          rintro v w' ⟨ρ1, s, H1, q1, q2, q3, rfl, rfl⟩
          refine goon U' v w' ?_ ⟨ρ1, q1, q2, q3⟩
          rcases hef with ⟨e1, e2⟩ | ⟨A, B, o1, X, z0, e1, e2, e3, e4, e5⟩
          · exact .same e1 fun o => base_same hset fun y hy hyi => absurd (hyi.trans hol.symm) (e2 y hy)
          · subst e1
            have ho1 : o1 < H0.length := by
              have := (List.getElem?_eq_some_iff.1 e3).1
              rw [viewW_len] at this; exact this
            obtain ⟨k1, k2⟩ := base_put (p := inL listed) (p' := inL (listed.setIfInBounds i true)) (i := older.length) (H := H0) (fun j => by rw [hset, hol]) hok (by rw [hol]; exact hil) hdownp ho1
            exact .put o1 X z0 e2 e3 e4 e5 k1 k2
        · rw [w1.eq hwe hs.sz]
          simp only [Bool.false_eq_true, if_false]
          refine ⟨fun _ _ => trivial, goon _ undef w (.same rfl fun o => base_same hset fun y hy hyi => absurd (hyi.trans hol.symm) (w4 y hy)) ⟨ρ.take (hl H0 older), ?_, ?_, ?_⟩⟩
          · rw [w2]; simp only [Rep]
          · rw [w3, List.append_nil]; exact hws
          · rw [w3, List.append_nil]; exact Ev.refl _ _ _
      · -- the first of the tail
        have hall : ∀ j, inL listed j = true ↔ j < F.length + 0 := by
          intro j
          constructor
          · intro hj
            rcases Nat.lt_or_ge j F.length with h | h
            · omega
            · rw [h2 j h] at hj; cases hj
          · intro hj
            exact tailBits (i - F.length) (by omega) (by omega) j (by omega)
        exact tailStep 0 tl hall rfl (by omega) (turn listed a w (by simpa using hall) ⟨ρ, hs⟩) hiF
    · have hiF : F.length ≤ i := by
        rcases Nat.lt_or_ge i F.length with h | h
        · rw [(h2 i).2 (by omega)] at hil; cases hil
        · exact h
      exact tailStep t rest h2 h3 h4 h5 hiF
end
theorem wb_draw {P : Program} {C : Cx} {e : Env} {H : List SO} {K : Exit → Env → List SO → Prop} {rid : Nat} {L : List Oper} (hm : P.follows .mixedOrders = true) (ms mt : List Nat) (Ws : List Wr) (hmask : okMask (ms ++ mt) 0 L = true) (htail : okTail (ms ++ mt) ms.length mt.length = true) (hok : okWs (ms ++ mt) Ws = true) (hWj : Ws.all (fun y => Nat.blt y.1 ms.length) = true) (hlen : L.length = ms.length + mt.length)
    (hE : inbE H.length e = true) (hH : inbH H.length H = true) (hC : C.ρ.length ≤ H.length) (h : RBf P C L.toArray e H (ms ++ mt) Ws (fun l acc => RW P C L.toArray l (envR e always acc) (heapR (baseW always Ws H) always acc) K) ms L []) : W P C (.region rid L.toArray true) e H K := by
  refine w_any hm ?_
  obtain ⟨h0, F, ⟨nw, hnw⟩, h4, h5, h6⟩ := RB_spec h
  intro a w hat
  obtain ⟨ρ, he, hs, hev, hsz, hdf⟩ := hat
  simp only [List.length_nil, Nat.zero_add, Nat.sub_zero, Nat.zero_le, true_implies] at h4 h5
  have ht : (L.take ms.length).length = ms.length := by simp; omega
  have hd : (L.drop ms.length).length = mt.length := by simp; omega
  have hstep : ∀ newer x older, F = newer ++ x :: older → ∃ m o, (ms ++ mt)[older.length]? = some m ∧ (L.take ms.length)[older.length]? = some o ∧ x.j = older.length ∧ x.d = o.dst ∧ StepB P C L.toArray e H (ms ++ mt) Ws m o older x.V x.N := by
    intro newer x older hF
    obtain ⟨m, o, q1, q2, q3⟩ := h5 newer x older hF
    have hlt : older.length < ms.length := (List.getElem?_eq_some_iff.1 q1).1
    exact ⟨m, o, by rw [List.getElem?_append_left hlt]; exact q1, by rw [List.getElem?_take, if_pos hlt]; exact q2, q3⟩
  have hfine : Fine e H F := by
    refine ⟨fun newer x older hF => ?_, fun newer x older hF => ?_, fun newer x older hF => ?_, fun newer x older hF => ?_, fun newer x older hF => ?_, hE, hH⟩ <;> obtain ⟨m, o, q1, q2, q3, q4, q5⟩ := hstep newer x older hF
    · exact q3
    · rw [q4]; exact q5.fresh
    · rw [hl_cons]; exact q5.inbV
    · rw [hl_cons]; exact q5.inbN
    · exact q5.own
  refine any_sb (ms := ms ++ mt) (l := L.take ms.length) (tl := L.drop ms.length) (F := F) (e0 := e) (H0 := H) (Ws := Ws) (by rw [List.take_append_drop]) (by rw [List.take_append_drop]; exact hmask) (by rw [ht, hd]; exact htail) (by rw [ht, h4]) hfine hok
    (fun y hy => by rw [ht]; exact blt_lt (List.all_eq_true.1 hWj y hy)) hstep h6 _ _ _ _ (by simp) ?_ ?_ (.inl ⟨fun i _ => ?_, ρ ++ List.replicate (hl H F - H.length) none, ?_⟩)
  · have : (Array.replicate L.toArray.size false).toList.filter id = [] := by simp
    rw [this]; simp
  · intro i o _ hi
    simp [inL, Array.getD_eq_getD_getElem?, Array.getElem?_replicate] at hi
    split at hi <;> simp at hi
  · simp [inL, Array.getD_eq_getD_getElem?, Array.getElem?_replicate]
    split <;> simp
  · have hp : ∀ j, inL (Array.replicate L.toArray.size false) j = false := by
      intro j
      simp [inL, Array.getD_eq_getD_getElem?, Array.getElem?_replicate]
      split <;> simp
    generalize inL (Array.replicate L.toArray.size false) = p at hp
    obtain ⟨g1, g2, g3, g4, g5, g6, g7⟩ := sa_start F hp he hs hev hsz hdf hC
    have hb := base_none hp Ws H
    exact ⟨g1, by rw [hb]; exact g2, g3, g4, by rw [hb]; exact g5, g6, by rw [hb]; exact g7⟩
section use
variable {P : Program} {C : Cx} {e : Env} {H : List SO} {K : Exit → Env → List SO → Prop} {ops : Array Oper} {m : Nat} {ms ms0 : List Nat} {Ws : List Wr} {o : Oper} {l : List Oper} {acc : List Ent} {Fin : List Oper → List Ent → Prop}
theorem noW {Ws : List Wr} {i : Nat} (h : Ws.all (fun y => !Nat.beq y.1 i) = true) : ∀ y ∈ Ws, y.1 ≠ i := fun y hy e => by
  have := List.all_eq_true.1 h y hy
  rw [e] at this; simp at this
/-- An operation that neither writes nor makes. -/
theorem rb_q {V : SV} (j : Nat) (hg : o.guard = none) (hj : acc.length = j) (hd : dstOK o.dst C.nt = true) (hf : freshD (envR e always acc) o.dst) (hB : inbH (hl H acc) (viewW m j ms0 Ws H) = true) (hw : Ws.all (fun y => !Nat.beq y.1 j) = true)
    (h : OpDo P C.r o (envR e (bitOn m) acc) (heapR (viewW m j ms0 Ws H) (bitOn m) acc) fun s H' => s = V ∧ H' = heapR (viewW m j ms0 Ws H) (bitOn m) acc) (hb : V.inb (hl H acc) = true) (k : RBf P C ops e H ms0 Ws Fin ms l (⟨j, o.dst, V, []⟩ :: acc)) : RBf P C ops e H ms0 Ws Fin (m :: ms) (o :: l) acc := by
  subst hj
  exact ⟨V, [], ⟨hd, hf, by simpa using hb, rfl, rfl, hB, .inl ⟨.inl ⟨hg, rfl⟩, _, .inl ⟨rfl, noW hw⟩, h.mono fun s H' hh => ⟨hh.1, by rw [hh.2, List.append_nil]⟩⟩⟩, k⟩
/-- An operation that makes new objects. -/
theorem rb_n {V : SV} {N : List SO} (j : Nat) (hg : o.guard = none) (hj : acc.length = j) (hd : dstOK o.dst C.nt = true) (hf : freshD (envR e always acc) o.dst) (hB : inbH (hl H acc) (viewW m j ms0 Ws H) = true) (hw : Ws.all (fun y => !Nat.beq y.1 j) = true)
    (h : OpDo P C.r o (envR e (bitOn m) acc) (heapR (viewW m j ms0 Ws H) (bitOn m) acc) fun s H' => s = V ∧ H' = heapR (viewW m j ms0 Ws H) (bitOn m) acc ++ N) (hb : V.inb (hl H acc + N.length) = true) (hN : inbH (hl H acc + N.length) N = true) (hO : allOwn N = true)
    (k : RBf P C ops e H ms0 Ws Fin ms l (⟨j, o.dst, V, N⟩ :: acc)) : RBf P C ops e H ms0 Ws Fin (m :: ms) (o :: l) acc := by
  subst hj
  exact ⟨V, N, ⟨hd, hf, hb, hN, hO, hB, .inl ⟨.inl ⟨hg, rfl⟩, _, .inl ⟨rfl, noW hw⟩, h⟩⟩, k⟩
/-- An operation that writes. -/
theorem rb_w {V : SV} (j k0 o1 : Nat) {X z0 : SO} (hg : o.guard = none) (hj : acc.length = j) (hd : dstOK o.dst C.nt = true) (hf : freshD (envR e always acc) o.dst) (hB : inbH (hl H acc) (viewW m j ms0 Ws H) = true) (hw : Ws[k0]? = some (j, o1, X)) (hz : (viewW m j ms0 Ws H)[o1]? = some z0) (hz0 : z0.own = true) (hX : X.own = true)
    (h : OpDo P C.r o (envR e (bitOn m) acc) (heapR (viewW m j ms0 Ws H) (bitOn m) acc) fun s H' => s = V ∧ H' = heapR ((viewW m j ms0 Ws H).set o1 X) (bitOn m) acc) (hb : V.inb (hl H acc) = true) (k : RBf P C ops e H ms0 Ws Fin ms l (⟨j, o.dst, V, []⟩ :: acc)) : RBf P C ops e H ms0 Ws Fin (m :: ms) (o :: l) acc := by
  subst hj
  have hlt := (List.getElem?_eq_some_iff.1 hw).1
  have hsp : Ws = Ws.take k0 ++ (acc.length, o1, X) :: Ws.drop (k0 + 1) := by
    have e1 : Ws[k0] = (acc.length, o1, X) := by rw [List.getElem?_eq_getElem hlt] at hw; simpa using hw
    rw [← e1, ← List.drop_eq_getElem_cons hlt, List.take_append_drop]
  exact ⟨V, [], ⟨hd, hf, by simpa using hb, rfl, rfl, hB, .inl ⟨.inl ⟨hg, rfl⟩, _, .inr ⟨_, _, o1, X, z0, hsp, rfl, hz, hz0, hX⟩, h.mono fun s H' hh => ⟨hh.1, by rw [hh.2, List.append_nil]⟩⟩⟩, k⟩
instance {e0 e' : Env} {j : Nat} {V : SV} {N : List SO} {acc : List Ent} [h : ER e0 acc e'] : ER e0 (⟨j, none, V, N⟩ :: acc) e' := ⟨by rw [← h.eq]; rfl⟩
theorem rb_done {HB e' H' : _} (hB : baseW always Ws H = HB) [h1 : ER e acc e'] [h2 : HR HB acc H'] (h : RW P C ops l e' H' K) : RBf P C ops e H ms0 Ws (fun l acc => RW P C ops l (envR e always acc) (heapR (baseW always Ws H) always acc) K) [] l acc := by
  have : RW P C ops l (envR e always acc) (heapR (baseW always Ws H) always acc) K := by rw [h1.eq, hB, h2.eq]; exact h
  cases l <;> exact this
end use
end Go.Sx

set_option linter.unusedVariables false
namespace Go.Sx
open Go
section
variable {P : Program} {r : Option Nat} {d : Option Tmp} {t : TypeId} {ps : String} {af : Array Edge} {g : Option (Nat × Bool)} {e : Env} {H : List SO} {K : SV → List SO → Prop}
def orI (k : IntKind) (x y : Int) : Int := k.wrap (BitVec.ofInt k.bits x ||| BitVec.ofInt k.bits y).toNat
end
end Go.Sx

namespace Go.Sx
open Go
theorem first_n {P : Program} {ρ : Rho} {H : List SO} {w : World} (hs : St ρ H w) {o off len n : Nat} {cap : Option Nat} {v : Value} (hv : Rep ρ (.slc o off len cap) v) {α : Type} {own : Bool} {sz : Nat} {enc : α → List Value} {dd : α} {xs : List α}
    (ho : H[o]? = some (.arr α own sz enc dd xs)) (hsz : 0 < sz) (hl : off + len ≤ xs.length) (hn : n ≤ len) :
    ∃ ad c, v = .slice ad len c ∧ (Builtin.firstCells sz n (.slice ad len c)).run P w = .ok ((cut xs off n).flatMap enc).toArray w := by
  simp only [Rep] at hv
  rcases hv with ⟨I, c, q1, q2, q3, q4, q5⟩ | ⟨q1, ⟨ad, q2⟩, q3⟩
  · have hk := hs.ok o _ _ ho q1
    simp only [okO] at hk
    obtain ⟨k1, k2, k3, k4⟩ := hk
    obtain ⟨k5, k6, k7, k8⟩ := k4 I rfl
    refine ⟨_, c, q2, ?_⟩
    have hfl := flatMap_len k1 (cut xs off n)
    rw [cut_len (show off + n ≤ xs.length by omega)] at hfl
    exact run_firstCells_some (P := P) w sz n _ len c _ hfl (fun j u hj => by
      rw [add_plain]
      have := k7.flat k1 hsz off n j u hj
      rw [k5]
      exact this)
  · subst q1
    have : n = 0 := by omega
    subst this
    refine ⟨ad, 0, q2, ?_⟩
    rw [run_first_none]
    simp [cut]
section
variable {P : Program} {r : Option Nat} {d : Option Tmp} {t : TypeId} {ps : String} {af : Array Edge} {g : Option (Nat × Bool)} {e : Env} {H : List SO} {K : SV → List SO → Prop}
theorem run_copy_put {w : World} (T ty el : TypeId) (i : TypeInfo) (ht : P.underlying T = some (.slice el)) (hi : P.info? el = some i)
    (b o : Nat) (ad2 : Option Addr) (len c len2 c2 : Nat) (news : List Value) (cur : Array Value) (e' : TypeId) (hcur : w.heap[b]? = some (.cells cur e' (0, 0)))
    (hn : (Builtin.firstCells i.size (Nat.min len2 len) (.slice ad2 len2 c2)).run P w = .ok news.toArray w) (h1 : ∀ v ∈ news, v.oneCell' = true) (hfit : o + news.length ≤ cur.size) :
    (Builtin.copy_ #[T, T] ty #[.slice (some ⟨b, o, none⟩) len c, .slice ad2 len2 c2]).run P w =
      .ok (goInt (Nat.min len2 len)) (w.setRow b (cur.toList.take o ++ news ++ cur.toList.drop (o + news.length)).toArray) := by
  have hst := run_storeCells_at P b o e' news 0 cur w hcur (by simpa using hfit) h1
  simp only [Nat.add_zero] at hst
  simp [Builtin.copy_, run_underlying ht, sizeOf, typeInfo, hi, Builtin.lenOf, hn, hst]
/-- copy to a whole row of our own, that is not empty. -/
theorem do_copy {T rt : TypeId} {x y : Operand} {el : TypeId} {n by_ : Nat} {z : List Value} {o len o2 off2 len2 : Nat} {cap cap2 : Option Nat} [hT : TySl P T el n by_ z] (hx : ev e x = some (.slc o 0 len cap)) (hy : ev e y = some (.slc o2 off2 len2 cap2))
    {α : Type} {own2 : Bool} {sz : Nat} {enc : α → List Value} {dd dd2 : α} {xs ys : List α} (ho : H[o]? = some (.arr α true sz enc dd xs)) (ho2 : H[o2]? = some (.arr α own2 sz enc dd2 ys)) (hn : sz = n)
    (h0 : 0 < len) (h1 : len = xs.length) (h2 : off2 + len2 ≤ ys.length)
    (k : K (.val (.int .i64 ((Nat.min len2 len : Nat) : Int))) (H.set o (.arr α true sz enc dd (cut ys off2 (Nat.min len2 len) ++ xs.drop (Nat.min len2 len))))) : OpDo P r ⟨d, .call ⟨.builtin .copy, #[x, y], #[T, T]⟩, rt, ps, af, g⟩ e H K := by
  refine ⟨by simp, fun ρ a w he hs => ?_⟩
  obtain ⟨t1, i, zv, t2, t3, t4, t5, t6, t7, t8⟩ := hT.out
  have hx' := he.ev hx
  have hsz : 0 < sz := by omega
  obtain ⟨k1, k2⟩ := Sx.SO_props hs ho
  obtain ⟨ad2, c2, e2, f2⟩ := first_n (P := P) (n := Nat.min len2 len) hs (he.ev hy) ho2 hsz h2 (Nat.min_le_left _ _)
  have hnl : Nat.min len2 len ≤ len := Nat.min_le_right _ _
  have hnl2 : Nat.min len2 len ≤ len2 := Nat.min_le_left _ _
  have hcl2 : (cut ys off2 (Nat.min len2 len)).length = Nat.min len2 len := cut_len (by omega)
  have hfl2 := flatMap_len k1 (cut ys off2 (Nat.min len2 len))
  rw [hcl2] at hfl2
  simp only [Rep] at hx'
  rcases hx' with ⟨I, c', q1, q2, q3, q4, q5⟩ | ⟨q1, _, _⟩
  rotate_left
  · omega
  have hk := hs.ok o _ _ ho q1
  simp only [okO] at hk
  obtain ⟨k5, k6, k7, k8⟩ := hk.2.2.2 I rfl
  obtain ⟨cur, e', k9, k10⟩ := k8 trivial
  generalize hme : Nat.min len2 len = m at *
  have hms : m * sz ≤ len * sz := Nat.mul_le_mul_right _ hnl
  have hq4 : I.base + len * sz ≤ I.size := by
    refine Nat.le_trans (Nat.add_le_add_left ?_ _) q4
    rw [k5]; exact Nat.mul_le_mul_right _ (by omega)
  have hfit : I.base + ((cut ys off2 m).flatMap enc).length ≤ cur.size := by rw [hfl2, ← k10]; omega
  have hrun := run_copy_put (P := P) (w := w) T rt el i t1 t2 I.b (I.base + 0 * I.sz) ad2 len c' len2 c2 _ cur e' k9 (by rw [hme, t3, ← hn]; exact f2) (enc_mem k2 _) (by rw [Nat.zero_mul, Nat.add_zero]; exact hfit)
  rw [hme, Nat.zero_mul, Nat.add_zero] at hrun
  generalize hw' : w.setRow I.b (cur.toList.take I.base ++ (cut ys off2 m).flatMap enc ++ cur.toList.drop (I.base + ((cut ys off2 m).flatMap enc).length)).toArray = w' at hrun
  have hrow : w'.heap[I.b]? = some (.cells (cur.toList.take I.base ++ (cut ys off2 m).flatMap enc ++ cur.toList.drop (I.base + ((cut ys off2 m).flatMap enc).length)).toArray e' (0, 0)) := by
    rw [← hw']; exact setRow_heap w I.b cur _ e' _ k9
  have hoth : ∀ b, b ≠ I.b → w'.heap[b]? = w.heap[b]? := fun b hb => by rw [← hw']; exact setRow_other w I.b b _ hb
  have hsz' : w'.heap.size = w.heap.size := by rw [← hw']; simp
  have hcs : cur.size = cur.toList.length := by simp
  refine ⟨.value (goInt m), w', ?_, ρ, _, _, ?_, hs.put q1 ho rfl (.inl rfl) hoth hsz' ?_, Ev.put q1 ho rfl hoth hsz' (by rw [← hw']; rfl) (by rw [← hw']; rfl) (by rw [← hw']; rfl), k⟩
  · have q2' : a.eval x = .slice (some ⟨I.b, I.base, none⟩) len c' := by rw [q2, Nat.zero_mul, Nat.add_zero]
    simp only [execOp, resolve, invoke, builtin, Sem.run_bind, Sem.run_pure, Result.andThen_ok, List.map_toArray, List.map_cons, List.map_nil, q2', e2, hrun]
  · simp only [Rep, goInt]
  · simp only [okO]
    refine ⟨k1, k2, .inr ⟨I, rfl⟩, fun I' hI' => ?_⟩
    simp only [Option.some.injEq] at hI'
    subst hI'
    refine ⟨k5, by rw [hsz']; exact k6, ?_, fun _ => ⟨_, e', hrow, ?_⟩⟩
    · refine Cells.of_flat k1 hsz fun j v hj => ?_
      rw [cell_at hrow]
      rw [List.flatMap_append] at hj
      rcases Nat.lt_or_ge j ((cut ys off2 m).flatMap enc).length with hjl | hjl
      · rw [List.getElem?_append_left hjl] at hj
        simp only [List.getElem?_toArray, List.append_assoc]
        rw [List.getElem?_append_right (by rw [List.length_take]; omega), List.length_take, Nat.min_eq_left (by omega), List.getElem?_append_left (by omega)]
        rw [← hj]; congr 1; omega
      · rw [List.getElem?_append_right hjl] at hj
        have hj3 : ((cut xs m (len - m)).flatMap enc)[j - m * sz]? = some v := by
          rw [show cut xs m (len - m) = xs.drop m by simp only [cut]; rw [List.take_of_length_le (by rw [List.length_drop]; omega)], ← hfl2]; exact hj
        have hc0 := k7.flat k1 hsz m (len - m) (j - m * sz) v hj3
        rw [cell_at k9] at hc0
        simp only [List.getElem?_toArray, List.append_assoc]
        rw [List.getElem?_append_right (by rw [List.length_take]; omega), List.length_take, Nat.min_eq_left (by omega), List.getElem?_append_right (by omega), List.getElem?_drop]
        rw [← hc0, ← Array.getElem?_toList]; congr 1; omega
    · rw [k10]
      simp only [List.size_toArray, List.length_append, List.length_take, List.length_drop]; omega
theorem n_copy {T rt : TypeId} {x y : Operand} {el : TypeId} {n by_ : Nat} {z : List Value} {o len o2 off2 len2 m : Nat} {cap cap2 : Option Nat} [hT : TySl P T el n by_ z] (hx : ev e x = some (.slc o 0 len cap)) (hy : ev e y = some (.slc o2 off2 len2 cap2))
    {α : Type} {own2 : Bool} {sz : Nat} {enc : α → List Value} {dd dd2 : α} {xs ys zs : List α} {H' : List SO} (ho : H[o]? = some (.arr α true sz enc dd xs)) (ho2 : H[o2]? = some (.arr α own2 sz enc dd2 ys)) (hn : sz = n)
    (h0 : 0 < len) (h1 : len = xs.length) (h2 : off2 + len2 ≤ ys.length) (hm : Nat.min len2 len = m) (hz : cut ys off2 m ++ xs.drop m = zs) [hs : LSet H o (.arr α true sz enc dd zs) H'] (k : K (.val (.int .i64 (m : Int))) H') :
    OpDo P r ⟨d, .call ⟨.builtin .copy, #[x, y], #[T, T]⟩, rt, ps, af, g⟩ e H K :=
  do_copy hx hy ho ho2 hn h0 h1 h2 (by rw [hm, hz, hs.eq]; exact k)
end
end Go.Sx

set_option linter.unusedVariables false
namespace Go.Proofs
open Go Go.Sx Go.RowKit
theorem u2 : Try.prog.underlying 2 = some (TypeDesc.int IntKind.i64) := by kernel_rfl
theorem u3 : Try.prog.underlying 3 = some (TypeDesc.int IntKind.i64) := by kernel_rfl
theorem u4 : Try.prog.underlying 4 = some TypeDesc.bool := by kernel_rfl
theorem u5 : Try.prog.underlying 5 = some (TypeDesc.int IntKind.u8) := by kernel_rfl
theorem u22 : Try.prog.underlying 22 = some (TypeDesc.slice 68) := by kernel_rfl
theorem u24 : Try.prog.underlying 24 = some (TypeDesc.struct #[{ name := "N", type := 3, offset := 0, embedded := false, tag := "", pkgPath := "", byteOffset := 0 }, { name := "S", type := 3, offset := 1, embedded := false, tag := "", pkgPath := "", byteOffset := 8 }, { name := "T", type := 3, offset := 2, embedded := false, tag := "", pkgPath := "", byteOffset := 16 }, { name := "Arcs", type := 22, offset := 3, embedded := false, tag := "", pkgPath := "", byteOffset := 24 }]) := by kernel_rfl
theorem u25 : Try.prog.underlying 25 = some (TypeDesc.slice 5) := by kernel_rfl
theorem u26 : Try.prog.underlying 26 = some (TypeDesc.slice 2) := by kernel_rfl
theorem u27 : Try.prog.underlying 27 = some (TypeDesc.slice 3) := by kernel_rfl
theorem u29 : Try.prog.underlying 29 = some (TypeDesc.struct #[{ name := "Res", type := 26, offset := 0, embedded := false, tag := "", pkgPath := "", byteOffset := 0 }, { name := "Ex", type := 26, offset := 1, embedded := false, tag := "", pkgPath := "", byteOffset := 24 }, { name := "H", type := 27, offset := 2, embedded := false, tag := "", pkgPath := "", byteOffset := 48 }]) := by kernel_rfl
theorem u30 : Try.prog.underlying 30 = some (TypeDesc.slice 4) := by kernel_rfl
theorem u32 : Try.prog.underlying 32 = some (TypeDesc.struct #[{ name := "N", type := 3, offset := 0, embedded := false, tag := "", pkgPath := "", byteOffset := 0 }, { name := "S", type := 3, offset := 1, embedded := false, tag := "", pkgPath := "", byteOffset := 8 }, { name := "T", type := 3, offset := 2, embedded := false, tag := "", pkgPath := "", byteOffset := 16 }, { name := "First", type := 27, offset := 3, embedded := false, tag := "", pkgPath := "", byteOffset := 24 }, { name := "Head", type := 27, offset := 4, embedded := false, tag := "", pkgPath := "", byteOffset := 48 }, { name := "Rev", type := 27, offset := 5, embedded := false, tag := "", pkgPath := "", byteOffset := 72 }, { name := "Cap", type := 26, offset := 6, embedded := false, tag := "", pkgPath := "", byteOffset := 96 }, { name := "Arc", type := 27, offset := 7, embedded := false, tag := "", pkgPath := "", byteOffset := 120 }, { name := "Back", type := 30, offset := 8, embedded := false, tag := "", pkgPath := "", byteOffset := 144 }]) := by kernel_rfl
theorem u33 : Try.prog.underlying 33 = some (TypeDesc.int IntKind.i64) := by kernel_rfl
theorem u68 : Try.prog.underlying 68 = some (TypeDesc.struct #[{ name := "From", type := 3, offset := 0, embedded := false, tag := "", pkgPath := "", byteOffset := 0 }, { name := "To", type := 3, offset := 1, embedded := false, tag := "", pkgPath := "", byteOffset := 8 }, { name := "Cap", type := 2, offset := 2, embedded := false, tag := "", pkgPath := "", byteOffset := 16 }]) := by kernel_rfl
theorem u111 : Try.prog.underlying 111 = some (TypeDesc.func #[24] #[4] false) := by kernel_rfl
theorem u113 : Try.prog.underlying 113 = some (TypeDesc.struct #[{ name := "so", type := 111, offset := 0, embedded := false, tag := "", pkgPath := "acequia/net", byteOffset := 0 }, { name := "e", type := 33, offset := 1, embedded := false, tag := "", pkgPath := "acequia/net", byteOffset := 8 }]) := by kernel_rfl
theorem u114 : Try.prog.underlying 114 = some (TypeDesc.array 6 113) := by kernel_rfl
theorem u116 : Try.prog.underlying 116 = some (TypeDesc.int IntKind.u64) := by kernel_rfl
theorem u119 : Try.prog.underlying 119 = some (TypeDesc.func #[24, 68] #[4] false) := by kernel_rfl
theorem i2 : Try.prog.info? 2 = some Try.t2 := by kernel_rfl
theorem i3 : Try.prog.info? 3 = some Try.t3 := by kernel_rfl
theorem i4 : Try.prog.info? 4 = some Try.t4 := by kernel_rfl
theorem i5 : Try.prog.info? 5 = some Try.t5 := by kernel_rfl
theorem i22 : Try.prog.info? 22 = some Try.t22 := by kernel_rfl
theorem i24 : Try.prog.info? 24 = some Try.t24 := by kernel_rfl
theorem i26 : Try.prog.info? 26 = some Try.t26 := by kernel_rfl
theorem i27 : Try.prog.info? 27 = some Try.t27 := by kernel_rfl
theorem i29 : Try.prog.info? 29 = some Try.t29 := by kernel_rfl
theorem i30 : Try.prog.info? 30 = some Try.t30 := by kernel_rfl
theorem i32 : Try.prog.info? 32 = some Try.t32 := by kernel_rfl
theorem i33 : Try.prog.info? 33 = some Try.t33 := by kernel_rfl
theorem i68 : Try.prog.info? 68 = some Try.t68 := by kernel_rfl
theorem i111 : Try.prog.info? 111 = some Try.t111 := by kernel_rfl
theorem i113 : Try.prog.info? 113 = some Try.t113 := by kernel_rfl
theorem i114 : Try.prog.info? 114 = some Try.t114 := by kernel_rfl
theorem i119 : Try.prog.info? 119 = some Try.t119 := by kernel_rfl
instance : TyOff Try.prog 24 0 0 := ⟨⟨_, _, u24, rfl, rfl, _, i3, by decide⟩⟩
instance : TyOff Try.prog 24 1 1 := ⟨⟨_, _, u24, rfl, rfl, _, i3, by decide⟩⟩
instance : TyOff Try.prog 24 2 2 := ⟨⟨_, _, u24, rfl, rfl, _, i3, by decide⟩⟩
instance : TyOff Try.prog 24 3 3 := ⟨⟨_, _, u24, rfl, rfl, _, i22, by decide⟩⟩
instance : TyOff Try.prog 29 0 0 := ⟨⟨_, _, u29, rfl, rfl, _, i26, by decide⟩⟩
instance : TyOff Try.prog 29 1 1 := ⟨⟨_, _, u29, rfl, rfl, _, i26, by decide⟩⟩
instance : TyOff Try.prog 29 2 2 := ⟨⟨_, _, u29, rfl, rfl, _, i27, by decide⟩⟩
instance : TyOff Try.prog 32 0 0 := ⟨⟨_, _, u32, rfl, rfl, _, i3, by decide⟩⟩
instance : TyOff Try.prog 32 1 1 := ⟨⟨_, _, u32, rfl, rfl, _, i3, by decide⟩⟩
instance : TyOff Try.prog 32 2 2 := ⟨⟨_, _, u32, rfl, rfl, _, i3, by decide⟩⟩
instance : TyOff Try.prog 32 3 3 := ⟨⟨_, _, u32, rfl, rfl, _, i27, by decide⟩⟩
instance : TyOff Try.prog 32 4 4 := ⟨⟨_, _, u32, rfl, rfl, _, i27, by decide⟩⟩
instance : TyOff Try.prog 32 5 5 := ⟨⟨_, _, u32, rfl, rfl, _, i27, by decide⟩⟩
instance : TyOff Try.prog 32 6 6 := ⟨⟨_, _, u32, rfl, rfl, _, i26, by decide⟩⟩
instance : TyOff Try.prog 32 7 7 := ⟨⟨_, _, u32, rfl, rfl, _, i27, by decide⟩⟩
instance : TyOff Try.prog 32 8 8 := ⟨⟨_, _, u32, rfl, rfl, _, i30, by decide⟩⟩
instance : TyOff Try.prog 68 0 0 := ⟨⟨_, _, u68, rfl, rfl, _, i3, by decide⟩⟩
instance : TyOff Try.prog 68 1 1 := ⟨⟨_, _, u68, rfl, rfl, _, i3, by decide⟩⟩
instance : TyOff Try.prog 68 2 2 := ⟨⟨_, _, u68, rfl, rfl, _, i2, by decide⟩⟩
instance : TyOff Try.prog 113 0 0 := ⟨⟨_, _, u113, rfl, rfl, _, i111, by decide⟩⟩
instance : TyOff Try.prog 113 1 1 := ⟨⟨_, _, u113, rfl, rfl, _, i33, by decide⟩⟩
instance : TyAgg Try.prog 24 4 := ⟨.inl ⟨_, u24⟩, ⟨_, i24, rfl⟩⟩
instance : TyAgg Try.prog 29 3 := ⟨.inl ⟨_, u29⟩, ⟨_, i29, rfl⟩⟩
instance : TyAgg Try.prog 32 9 := ⟨.inl ⟨_, u32⟩, ⟨_, i32, rfl⟩⟩
instance : TyAgg Try.prog 68 3 := ⟨.inl ⟨_, u68⟩, ⟨_, i68, rfl⟩⟩
instance : TyAgg Try.prog 113 2 := ⟨.inl ⟨_, u113⟩, ⟨_, i113, rfl⟩⟩
instance : TyOne Try.prog 2 := ⟨⟨_, u2, (fun _ h => by cases h), (fun _ _ h => by cases h)⟩, ⟨_, i2, rfl⟩⟩
instance : TyOne Try.prog 3 := ⟨⟨_, u3, (fun _ h => by cases h), (fun _ _ h => by cases h)⟩, ⟨_, i3, rfl⟩⟩
instance : TyOne Try.prog 4 := ⟨⟨_, u4, (fun _ h => by cases h), (fun _ _ h => by cases h)⟩, ⟨_, i4, rfl⟩⟩
instance : TyOne Try.prog 5 := ⟨⟨_, u5, (fun _ h => by cases h), (fun _ _ h => by cases h)⟩, ⟨_, i5, rfl⟩⟩
instance : TyOne Try.prog 22 := ⟨⟨_, u22, (fun _ h => by cases h), (fun _ _ h => by cases h)⟩, ⟨_, i22, rfl⟩⟩
instance : TyOne Try.prog 26 := ⟨⟨_, u26, (fun _ h => by cases h), (fun _ _ h => by cases h)⟩, ⟨_, i26, rfl⟩⟩
instance : TyOne Try.prog 27 := ⟨⟨_, u27, (fun _ h => by cases h), (fun _ _ h => by cases h)⟩, ⟨_, i27, rfl⟩⟩
instance : TyOne Try.prog 30 := ⟨⟨_, u30, (fun _ h => by cases h), (fun _ _ h => by cases h)⟩, ⟨_, i30, rfl⟩⟩
instance : TyOne Try.prog 33 := ⟨⟨_, u33, (fun _ h => by cases h), (fun _ _ h => by cases h)⟩, ⟨_, i33, rfl⟩⟩
instance : TyOne Try.prog 111 := ⟨⟨_, u111, (fun _ h => by cases h), (fun _ _ h => by cases h)⟩, ⟨_, i111, rfl⟩⟩
instance : TyOne Try.prog 119 := ⟨⟨_, u119, (fun _ h => by cases h), (fun _ _ h => by cases h)⟩, ⟨_, i119, rfl⟩⟩
instance : TySl Try.prog 22 68 3 24 [(Value.int IntKind.i64 0), (Value.int IntKind.i64 0), (Value.int IntKind.i64 0)] := ⟨u22, _, _, i68, rfl, rfl, by decide, rfl, rfl, rfl⟩
instance : TySl Try.prog 25 5 1 1 [(Value.int IntKind.u8 0)] := ⟨u25, _, _, i5, rfl, rfl, by decide, rfl, rfl, rfl⟩
instance : TySl Try.prog 26 2 1 8 [(Value.int IntKind.i64 0)] := ⟨u26, _, _, i2, rfl, rfl, by decide, rfl, rfl, rfl⟩
instance : TySl Try.prog 27 3 1 8 [(Value.int IntKind.i64 0)] := ⟨u27, _, _, i3, rfl, rfl, by decide, rfl, rfl, rfl⟩
instance : TySl Try.prog 30 4 1 1 [(Value.bool false)] := ⟨u30, _, _, i4, rfl, rfl, by decide, rfl, rfl, rfl⟩
instance : TyZero Try.prog 2 (Value.int IntKind.i64 0) := ⟨⟨_, i2, rfl⟩⟩
instance : TyZero Try.prog 3 (Value.int IntKind.i64 0) := ⟨⟨_, i3, rfl⟩⟩
instance : TyZero Try.prog 4 (Value.bool false) := ⟨⟨_, i4, rfl⟩⟩
instance : TyZero Try.prog 24 (Value.agg #[(Value.int IntKind.i64 0), (Value.int IntKind.i64 0), (Value.int IntKind.i64 0), (Value.slice none 0 0)]) := ⟨⟨_, i24, rfl⟩⟩
instance : TyZero Try.prog 26 (Value.slice none 0 0) := ⟨⟨_, i26, rfl⟩⟩
instance : TyZero Try.prog 27 (Value.slice none 0 0) := ⟨⟨_, i27, rfl⟩⟩
instance : TyZero Try.prog 29 (Value.agg #[(Value.slice none 0 0), (Value.slice none 0 0), (Value.slice none 0 0)]) := ⟨⟨_, i29, rfl⟩⟩
instance : TyZero Try.prog 30 (Value.slice none 0 0) := ⟨⟨_, i30, rfl⟩⟩
instance : TyZero Try.prog 32 (Value.agg #[(Value.int IntKind.i64 0), (Value.int IntKind.i64 0), (Value.int IntKind.i64 0), (Value.slice none 0 0), (Value.slice none 0 0), (Value.slice none 0 0), (Value.slice none 0 0), (Value.slice none 0 0), (Value.slice none 0 0)]) := ⟨⟨_, i32, rfl⟩⟩
instance : TyZero Try.prog 68 (Value.agg #[(Value.int IntKind.i64 0), (Value.int IntKind.i64 0), (Value.int IntKind.i64 0)]) := ⟨⟨_, i68, rfl⟩⟩
instance : TyZero Try.prog 113 (Value.agg #[Value.nilFunc, (Value.int IntKind.i64 0)]) := ⟨⟨_, i113, rfl⟩⟩
instance : TyZero Try.prog 114 (Value.agg #[Value.nilFunc, (Value.int IntKind.i64 0), Value.nilFunc, (Value.int IntKind.i64 0), Value.nilFunc, (Value.int IntKind.i64 0), Value.nilFunc, (Value.int IntKind.i64 0), Value.nilFunc, (Value.int IntKind.i64 0), Value.nilFunc, (Value.int IntKind.i64 0)]) := ⟨⟨_, i114, rfl⟩⟩
instance : TyZeroC Try.prog 2 [.val ((Value.int IntKind.i64 0))] := ⟨⟨_, inferInstance, rfl⟩⟩
instance : TyZeroC Try.prog 3 [.val ((Value.int IntKind.i64 0))] := ⟨⟨_, inferInstance, rfl⟩⟩
instance : TyZeroC Try.prog 4 [.val ((Value.bool false))] := ⟨⟨_, inferInstance, rfl⟩⟩
instance : TyZeroC Try.prog 24 [.val ((Value.int IntKind.i64 0)), .val ((Value.int IntKind.i64 0)), .val ((Value.int IntKind.i64 0)), .val ((Value.slice none 0 0))] := ⟨⟨_, inferInstance, rfl⟩⟩
instance : TyZeroC Try.prog 26 [.val ((Value.slice none 0 0))] := ⟨⟨_, inferInstance, rfl⟩⟩
instance : TyZeroC Try.prog 27 [.val ((Value.slice none 0 0))] := ⟨⟨_, inferInstance, rfl⟩⟩
instance : TyZeroC Try.prog 29 [.val ((Value.slice none 0 0)), .val ((Value.slice none 0 0)), .val ((Value.slice none 0 0))] := ⟨⟨_, inferInstance, rfl⟩⟩
instance : TyZeroC Try.prog 30 [.val ((Value.slice none 0 0))] := ⟨⟨_, inferInstance, rfl⟩⟩
instance : TyZeroC Try.prog 32 [.val ((Value.int IntKind.i64 0)), .val ((Value.int IntKind.i64 0)), .val ((Value.int IntKind.i64 0)), .val ((Value.slice none 0 0)), .val ((Value.slice none 0 0)), .val ((Value.slice none 0 0)), .val ((Value.slice none 0 0)), .val ((Value.slice none 0 0)), .val ((Value.slice none 0 0))] := ⟨⟨_, inferInstance, rfl⟩⟩
instance : TyZeroC Try.prog 68 [.val ((Value.int IntKind.i64 0)), .val ((Value.int IntKind.i64 0)), .val ((Value.int IntKind.i64 0))] := ⟨⟨_, inferInstance, rfl⟩⟩
instance : TyZeroC Try.prog 113 [.val (Value.nilFunc), .val ((Value.int IntKind.i64 0))] := ⟨⟨_, inferInstance, rfl⟩⟩
instance : TyZeroC Try.prog 114 [.val (Value.nilFunc), .val ((Value.int IntKind.i64 0)), .val (Value.nilFunc), .val ((Value.int IntKind.i64 0)), .val (Value.nilFunc), .val ((Value.int IntKind.i64 0)), .val (Value.nilFunc), .val ((Value.int IntKind.i64 0)), .val (Value.nilFunc), .val ((Value.int IntKind.i64 0)), .val (Value.nilFunc), .val ((Value.int IntKind.i64 0))] := ⟨⟨_, inferInstance, rfl⟩⟩
instance : TyInt Try.prog 3 IntKind.i64 := ⟨u3⟩
instance : TyInt Try.prog 5 IntKind.u8 := ⟨u5⟩
instance : TyInt Try.prog 116 IntKind.u64 := ⟨u116⟩
instance : TyBuild Try.prog 24 [(0, 1), (1, 1), (2, 1), (3, 1)] [(Value.int IntKind.i64 0), (Value.int IntKind.i64 0), (Value.int IntKind.i64 0), (Value.slice none 0 0)] := ⟨fun w => ⟨_, u24, run_zero i24 rfl, by simp [sizeOf, typeInfo, i3, i3, i3, i22] <;> (try and_intros) <;> rfl⟩⟩
instance : TyBuild Try.prog 29 [(0, 1), (1, 1), (2, 1)] [(Value.slice none 0 0), (Value.slice none 0 0), (Value.slice none 0 0)] := ⟨fun w => ⟨_, u29, run_zero i29 rfl, by simp [sizeOf, typeInfo, i26, i26, i27] <;> (try and_intros) <;> rfl⟩⟩
instance : TyBuild Try.prog 32 [(0, 1), (1, 1), (2, 1), (3, 1), (4, 1), (5, 1), (6, 1), (7, 1), (8, 1)] [(Value.int IntKind.i64 0), (Value.int IntKind.i64 0), (Value.int IntKind.i64 0), (Value.slice none 0 0), (Value.slice none 0 0), (Value.slice none 0 0), (Value.slice none 0 0), (Value.slice none 0 0), (Value.slice none 0 0)] := ⟨fun w => ⟨_, u32, run_zero i32 rfl, by simp [sizeOf, typeInfo, i3, i3, i3, i27, i27, i27, i26, i27, i30] <;> (try and_intros) <;> rfl⟩⟩
instance : TyBuild Try.prog 68 [(0, 1), (1, 1), (2, 1)] [(Value.int IntKind.i64 0), (Value.int IntKind.i64 0), (Value.int IntKind.i64 0)] := ⟨fun w => ⟨_, u68, run_zero i68 rfl, by simp [sizeOf, typeInfo, i3, i3, i2] <;> (try and_intros) <;> rfl⟩⟩
instance : TyBuild Try.prog 113 [(0, 1), (1, 1)] [Value.nilFunc, (Value.int IntKind.i64 0)] := ⟨fun w => ⟨_, u113, run_zero i113 rfl, by simp [sizeOf, typeInfo, i111, i33] <;> (try and_intros) <;> rfl⟩⟩
instance : FnOK Try.prog 9 := ⟨⟨_, Try.func9, by decide, rfl⟩⟩
instance : FnOK Try.prog 10 := ⟨⟨_, Try.func10, by decide, rfl⟩⟩
instance : FnOK Try.prog 11 := ⟨⟨_, Try.func11, by decide, rfl⟩⟩
instance : FnOK Try.prog 12 := ⟨⟨_, Try.func12, by decide, rfl⟩⟩
instance : FnOK Try.prog 13 := ⟨⟨_, Try.func13, by decide, rfl⟩⟩
instance : FnOK Try.prog 14 := ⟨⟨_, Try.func14, by decide, rfl⟩⟩
instance : FnOK Try.prog 15 := ⟨⟨_, Try.func15, by decide, rfl⟩⟩
instance : FnOK Try.prog 16 := ⟨⟨_, Try.func16, by decide, rfl⟩⟩
instance : FnOK Try.prog 17 := ⟨⟨_, Try.func17, by decide, rfl⟩⟩
instance : FnOK Try.prog 18 := ⟨⟨_, Try.func18, by decide, rfl⟩⟩
instance : FnOK Try.prog 19 := ⟨⟨_, Try.func19, by decide, rfl⟩⟩
instance : FnOK Try.prog 20 := ⟨⟨_, Try.func20, by decide, rfl⟩⟩
instance : FnOK Try.prog 21 := ⟨⟨_, Try.func21, by decide, rfl⟩⟩
instance : FnOK Try.prog 22 := ⟨⟨_, Try.func22, by decide, rfl⟩⟩
instance : FnOK Try.prog 23 := ⟨⟨_, Try.func23, by decide, rfl⟩⟩
instance : FnOK Try.prog 24 := ⟨⟨_, Try.func24, by decide, rfl⟩⟩
instance : FnOK Try.prog 25 := ⟨⟨_, Try.func25, by decide, rfl⟩⟩
instance : FnOK Try.prog 26 := ⟨⟨_, Try.func26, by decide, rfl⟩⟩
instance : FnOK Try.prog 27 := ⟨⟨_, Try.func27, by decide, rfl⟩⟩
instance : FnOK Try.prog 28 := ⟨⟨_, Try.func28, by decide, rfl⟩⟩
instance : FnOK Try.prog 29 := ⟨⟨_, Try.func29, by decide, rfl⟩⟩
instance : FnOK Try.prog 30 := ⟨⟨_, Try.func30, by decide, rfl⟩⟩
instance : FnOK Try.prog 31 := ⟨⟨_, Try.func31, by decide, rfl⟩⟩
instance : FnOK Try.prog 32 := ⟨⟨_, Try.func32, by decide, rfl⟩⟩
instance : FnOK Try.prog 33 := ⟨⟨_, Try.func33, by decide, rfl⟩⟩
instance : FnOK Try.prog 34 := ⟨⟨_, Try.func34, by decide, rfl⟩⟩
instance : FnOK Try.prog 35 := ⟨⟨_, Try.func35, by decide, rfl⟩⟩
instance : FnOK Try.prog 36 := ⟨⟨_, Try.func36, by decide, rfl⟩⟩
instance : FnOK Try.prog 37 := ⟨⟨_, Try.func37, by decide, rfl⟩⟩
instance : FnOK Try.prog 38 := ⟨⟨_, Try.func38, by decide, rfl⟩⟩
instance : FnOK Try.prog 39 := ⟨⟨_, Try.func39, by decide, rfl⟩⟩
instance : FnOK Try.prog 40 := ⟨⟨_, Try.func40, by decide, rfl⟩⟩
instance : FnOK Try.prog 41 := ⟨⟨_, Try.func41, by decide, rfl⟩⟩
instance : FnOK Try.prog 42 := ⟨⟨_, Try.func42, by decide, rfl⟩⟩
instance : FnOK Try.prog 43 := ⟨⟨_, Try.func43, by decide, rfl⟩⟩
instance : FnOK Try.prog 44 := ⟨⟨_, Try.func44, by decide, rfl⟩⟩
instance : FnOK Try.prog 45 := ⟨⟨_, Try.func45, by decide, rfl⟩⟩
instance : FnOK Try.prog 46 := ⟨⟨_, Try.func46, by decide, rfl⟩⟩
instance : FnOK Try.prog 47 := ⟨⟨_, Try.func47, by decide, rfl⟩⟩
instance : FnOK Try.prog 48 := ⟨⟨_, Try.func48, by decide, rfl⟩⟩
instance : FnOK Try.prog 49 := ⟨⟨_, Try.func49, by decide, rfl⟩⟩
instance : FnOK Try.prog 50 := ⟨⟨_, Try.func50, by decide, rfl⟩⟩
instance : FnOK Try.prog 51 := ⟨⟨_, Try.func51, by decide, rfl⟩⟩
instance : FnOK Try.prog 52 := ⟨⟨_, Try.func52, by decide, rfl⟩⟩
instance : FnOK Try.prog 53 := ⟨⟨_, Try.func53, by decide, rfl⟩⟩
instance : FnOK Try.prog 54 := ⟨⟨_, Try.func54, by decide, rfl⟩⟩
instance : FnOK Try.prog 55 := ⟨⟨_, Try.func55, by decide, rfl⟩⟩
instance : FnOK Try.prog 56 := ⟨⟨_, Try.func56, by decide, rfl⟩⟩
instance : FnOK Try.prog 57 := ⟨⟨_, Try.func57, by decide, rfl⟩⟩
instance : FnOK Try.prog 58 := ⟨⟨_, Try.func58, by decide, rfl⟩⟩
instance : FnOK Try.prog 59 := ⟨⟨_, Try.func59, by decide, rfl⟩⟩
instance : FnOK Try.prog 60 := ⟨⟨_, Try.func60, by decide, rfl⟩⟩
instance : FnOK Try.prog 61 := ⟨⟨_, Try.func61, by decide, rfl⟩⟩
instance : FnOK Try.prog 62 := ⟨⟨_, Try.func62, by decide, rfl⟩⟩
instance : FnOK Try.prog 63 := ⟨⟨_, Try.func63, by decide, rfl⟩⟩
instance : FnOK Try.prog 64 := ⟨⟨_, Try.func64, by decide, rfl⟩⟩
instance : FnOK Try.prog 65 := ⟨⟨_, Try.func65, by decide, rfl⟩⟩
instance : FnOK Try.prog 66 := ⟨⟨_, Try.func66, by decide, rfl⟩⟩
instance : FnOK Try.prog 67 := ⟨⟨_, Try.func67, by decide, rfl⟩⟩
instance : FnOK Try.prog 68 := ⟨⟨_, Try.func68, by decide, rfl⟩⟩
instance : FnOK Try.prog 69 := ⟨⟨_, Try.func69, by decide, rfl⟩⟩
instance : FnOK Try.prog 70 := ⟨⟨_, Try.func70, by decide, rfl⟩⟩
instance : FnOK Try.prog 71 := ⟨⟨_, Try.func71, by decide, rfl⟩⟩
instance : FnOK Try.prog 72 := ⟨⟨_, Try.func72, by decide, rfl⟩⟩
instance : FnOK Try.prog 73 := ⟨⟨_, Try.func73, by decide, rfl⟩⟩
instance : FnOK Try.prog 74 := ⟨⟨_, Try.func74, by decide, rfl⟩⟩
instance : FnOK Try.prog 75 := ⟨⟨_, Try.func75, by decide, rfl⟩⟩
instance : FnOK Try.prog 76 := ⟨⟨_, Try.func76, by decide, rfl⟩⟩
instance : FnOK Try.prog 77 := ⟨⟨_, Try.func77, by decide, rfl⟩⟩
instance : FnOK Try.prog 78 := ⟨⟨_, Try.func78, by decide, rfl⟩⟩
instance : FnOK Try.prog 79 := ⟨⟨_, Try.func79, by decide, rfl⟩⟩
instance : FnOK Try.prog 80 := ⟨⟨_, Try.func80, by decide, rfl⟩⟩
instance : FnOK Try.prog 81 := ⟨⟨_, Try.func81, by decide, rfl⟩⟩
instance : FnOK Try.prog 82 := ⟨⟨_, Try.func82, by decide, rfl⟩⟩
instance : FnOK Try.prog 83 := ⟨⟨_, Try.func83, by decide, rfl⟩⟩
instance : FnOK Try.prog 84 := ⟨⟨_, Try.func84, by decide, rfl⟩⟩
instance : FnOK Try.prog 85 := ⟨⟨_, Try.func85, by decide, rfl⟩⟩
instance : FnOK Try.prog 86 := ⟨⟨_, Try.func86, by decide, rfl⟩⟩
instance : FnOK Try.prog 87 := ⟨⟨_, Try.func87, by decide, rfl⟩⟩
instance : FnOK Try.prog 88 := ⟨⟨_, Try.func88, by decide, rfl⟩⟩
instance : FnOK Try.prog 89 := ⟨⟨_, Try.func89, by decide, rfl⟩⟩
instance : FnOK Try.prog 90 := ⟨⟨_, Try.func90, by decide, rfl⟩⟩
instance : FnOK Try.prog 91 := ⟨⟨_, Try.func91, by decide, rfl⟩⟩
instance : FnOK Try.prog 92 := ⟨⟨_, Try.func92, by decide, rfl⟩⟩
instance : FnOK Try.prog 93 := ⟨⟨_, Try.func93, by decide, rfl⟩⟩
instance : FnOK Try.prog 94 := ⟨⟨_, Try.func94, by decide, rfl⟩⟩
instance : FnOK Try.prog 95 := ⟨⟨_, Try.func95, by decide, rfl⟩⟩
instance : FnOK Try.prog 96 := ⟨⟨_, Try.func96, by decide, rfl⟩⟩
instance : FnOK Try.prog 97 := ⟨⟨_, Try.func97, by decide, rfl⟩⟩
instance : FnOK Try.prog 98 := ⟨⟨_, Try.func98, by decide, rfl⟩⟩
instance : FnOK Try.prog 99 := ⟨⟨_, Try.func99, by decide, rfl⟩⟩
instance : FnOK Try.prog 100 := ⟨⟨_, Try.func100, by decide, rfl⟩⟩
instance : FnOK Try.prog 101 := ⟨⟨_, Try.func101, by decide, rfl⟩⟩
instance : FnOK Try.prog 102 := ⟨⟨_, Try.func102, by decide, rfl⟩⟩
instance : FnOK Try.prog 103 := ⟨⟨_, Try.func103, by decide, rfl⟩⟩
instance : FnOK Try.prog 104 := ⟨⟨_, Try.func104, by decide, rfl⟩⟩
instance : TyBool Try.prog 4 := ⟨u4⟩
theorem mixed : Try.prog.follows .mixedOrders = true := by kernel_rfl
end Go.Proofs

set_option linter.unusedVariables false
namespace Go.Proofs
open Go Go.Sx Go.RowKit
/-- A number from 0 on, below n, out of any. -/
def Among (x n : Int) : Int := if n < 1 then 0 else x % n
theorem among_val {x n : Int} (hn : 1 ≤ n) : ((x.tmod n) + n).tmod n = Among x n := by
  have h1 := Int.tmod_add_mul_tdiv x n
  have h2 := Int.emod_add_mul_ediv x n
  have h3 := Int.tmod_lt_of_pos x (b := n) (by omega)
  have h4 : -n < x.tmod n := Int.lt_tmod_of_pos x (by omega)
  rw [Int.tmod_eq_emod_of_nonneg (by omega)]
  unfold Among
  rw [if_neg (by omega), Int.add_emod_right]
  conv => rhs; rw [← h1]
  rw [Int.add_mul_emod_self_left]
theorem t_Among (x n : Int) (hn : n < 4611686018427387904) : Tri Try.prog 42 [.val (.int .i64 x), .val (.int .i64 n)] [] (fun s H => s = .val (.int .i64 (Among x n)) ∧ H = []) := by
  refine tri_of_w (fn := Try.f42) Try.func42 rfl (by simp [Try.f42]) ?_
  intro ρ w hρ
  refine w_seq ?_
  refine w_region ?_
  refine rw_t 4 rfl rfl rfl (do_assign rfl ?_)
  refine rw_nil ?_
  refine w_seq ?_
  refine w_seq ?_
  refine w_region ?_
  refine rw_t 5 rfl rfl rfl (do_move rfl ?_)
  refine rw_t 6 rfl rfl rfl (do_bin rfl rfl rfl ?_)
  refine rw_nil ?_
  refine w_cond rfl (fun hc1 => ?_) (fun hc1 => ?_)
  all_goals simp at hc1
  · refine w_seq ?_
    refine w_region ?_
    refine rw_t 4 rfl rfl rfl (do_assign rfl ?_)
    refine rw_nil ?_
    refine w_ret ?_
    exact ret_eq (.inl rfl) (.cons (res_tmp rfl) .nil) [] (val_congr (by unfold Among; rw [if_pos hc1])) trivial rfl (pre_ok rfl)
  refine w_skip ?_
  refine w_seq ?_
  refine w_region ?_
  refine rw_t 7 rfl rfl rfl (do_move rfl ?_)
  refine rw_t 8 rfl rfl rfl (do_move rfl ?_)
  refine rw_t 9 rfl rfl rfl (do_rem rfl rfl (by omega) ?_)
  refine rw_t 10 rfl rfl rfl (do_move rfl ?_)
  refine rw_t 11 rfl rfl rfl (do_add rfl rfl (by have h3 := Int.tmod_lt_of_pos x (b := n) (by omega); have h4 := Int.lt_tmod_of_pos x (b := n) (by omega); omega) ?_)
  refine rw_t 12 rfl rfl rfl (do_move rfl ?_)
  refine rw_t 13 rfl rfl rfl (do_rem rfl rfl (by omega) ?_)
  refine rw_t 4 rfl rfl rfl (do_assign rfl ?_)
  refine rw_nil ?_
  refine w_ret ?_
  exact ret_eq (.inl rfl) (.cons (res_tmp rfl) .nil) [] (val_congr (among_val hc1)) trivial rfl (pre_ok rfl)
end Go.Proofs

set_option linter.unusedVariables false
namespace Go.Proofs
open Go Go.Sx Go.RowKit
theorem eq_of_take {a b : List Int} {i : Nat} (h : a.length = b.length) (hi : a.length ≤ i) (ht : a.take i = b.take i) : a = b := by
  rwa [List.take_of_length_le hi, List.take_of_length_le (by omega)] at ht
theorem take_next {a b : List Int} {i : Nat} (ha : i < a.length) (hb : i < b.length) (ht : a.take i = b.take i) (h : a.getD i 0 = b.getD i 0) : a.take (i + 1) = b.take (i + 1) := by
  rw [List.take_succ_eq_append_getElem ha, List.take_succ_eq_append_getElem hb, ht]
  simp [List.getD, List.getElem?_eq_getElem ha, List.getElem?_eq_getElem hb] at h
  rw [h]
set_option maxHeartbeats 8000000 in
theorem t_Ints (a b : List Int) (hl : a.length < 4611686018427387904) : Tri Try.prog 19 [.slc 0 0 a.length none, .slc 1 0 b.length none] [.ints false .i64 a, .ints false .i64 b] (fun s H => s = .val (.bool (decide (a = b))) ∧ H = [.ints false .i64 a, .ints false .i64 b]) := by
  refine tri_of_w (fn := Try.f19) Try.func19 rfl (by simp [Try.f19]) ?_
  intro ρ w hρ
  refine w_seq ?_
  refine w_region ?_
  refine rw_t 4 rfl rfl rfl (do_assign rfl ?_)
  refine rw_nil ?_
  refine w_seq ?_
  refine w_seq ?_
  refine w_region ?_
  refine rw_t 6 rfl rfl rfl (do_move rfl ?_)
  refine rw_t 7 rfl rfl rfl (do_len rfl ?_)
  refine rw_t 8 rfl rfl rfl (do_move rfl ?_)
  refine rw_t 9 rfl rfl rfl (do_len rfl ?_)
  refine rw_t 10 rfl rfl rfl (do_bin rfl rfl rfl ?_)
  refine rw_nil ?_
  refine w_cond rfl (fun hc1 => ?_) (fun hc1 => ?_)
  all_goals simp only [bs] at hc1
  · refine w_seq ?_
    refine w_region ?_
    refine rw_t 4 rfl rfl rfl (do_assign rfl ?_)
    refine rw_nil ?_
    refine w_ret ?_
    exact ret_eq (.inl rfl) (.cons (res_tmp rfl) .nil) [0, 1] (bool_congr (decide_eq_false (fun h => hc1 (by rw [h]))).symm) ⟨shR rfl, shR rfl, trivial⟩ rfl (pre_ok rfl)
  refine w_skip ?_
  refine w_seq ?_
  refine w_seq ?_
  refine w_region ?_
  refine rw_t 11 rfl rfl rfl (do_move rfl ?_)
  refine rw_t 12 rfl rfl rfl (do_len rfl ?_)
  refine rw_t 13 rfl rfl rfl (do_move rfl ?_)
  refine rw_nil ?_
  refine w_block ?_ -- block 0
  have hab : a.length = b.length := by omega
  refine w_loopS (ι := Nat) (fun i => [(13, .val (.int .i64 ((i : Nat)))), (12, .val (.int .i64 ((a.length : Nat)))), (0, .slc 0 0 a.length none), (1, .slc 1 0 b.length none)]) (fun i => [.ints false .i64 a, .ints false .i64 b]) (fun i => a.length - i) (fun i => i ≤ a.length ∧ a.take i = b.take i) (0) [0, 1] (by simp) ⟨shR rfl, shR rfl, trivial⟩ rfl (pre_ok rfl) hρ ⟨⟨_, rfl, rfl⟩, ⟨_, rfl, rfl⟩, ⟨_, rfl, rfl⟩, ⟨_, rfl, rfl⟩, trivial⟩ ?_
  intro i hi
  refine w_seq ?_
  refine w_region ?_
  refine rw_t 14 rfl rfl rfl (do_bin rfl rfl rfl ?_)
  refine rw_nil ?_
  refine w_seq ?_
  refine w_cond rfl (fun hc2 => ?_) (fun hc2 => ?_)
  all_goals simp only [bs] at hc2
  rotate_left
  · refine w_exit ?_
    refine w_seq ?_
    refine w_region ?_
    refine rw_t 4 rfl rfl rfl (do_assign rfl ?_)
    refine rw_nil ?_
    refine w_ret ?_
    exact ret_eq (.inl rfl) (.cons (res_tmp rfl) .nil) [0, 1] (bool_congr (decide_eq_true (eq_of_take hab (by omega) hi.2)).symm) ⟨shR rfl, shR rfl, trivial⟩ rfl (pre_ok rfl)
  refine w_skip ?_
  refine w_seq ?_
  refine w_block ?_ -- block 1
  refine w_seq ?_
  refine w_region ?_
  refine rw_t 15 rfl rfl rfl (do_move rfl ?_)
  refine rw_t 5 rfl rfl rfl (do_assign rfl ?_)
  refine rw_nil ?_
  refine w_seq ?_
  refine w_draw mixed [0, 0, 3, 7, 0, 0, 48, 112] [255] (by kernel_rfl) (by kernel_rfl) rfl rfl rfl (hle hρ rfl) ?_
  refine ra_q (j := 0) rfl rfl rfl rfl (do_move rfl ⟨rfl, rfl⟩) (by rfl) ?_
  refine ra_q (j := 1) rfl rfl rfl rfl (do_move rfl ⟨rfl, rfl⟩) (by rfl) ?_
  first
    | refine ra_q (j := 2) rfl rfl rfl rfl (do_ixn rfl rfl rfl (by omega) ⟨rfl, rfl⟩) (by rfl) ?_
    | refine ra_q (j := 2) rfl rfl rfl rfl (do_ix0 rfl rfl rfl (by omega) ⟨rfl, rfl⟩) (by rfl) ?_
    | refine ra_q (j := 2) rfl rfl rfl rfl (do_ix rfl rfl rfl (by omega) ⟨rfl, rfl⟩) (by rfl) ?_
  first
    | refine ra_q (j := 3) rfl rfl rfl rfl (do_load_box rfl rfl rfl ⟨rfl, rfl⟩) (by rfl) ?_
    | refine ra_q (j := 3) rfl rfl rfl rfl (do_load_arr rfl rfl (by omega) rfl ⟨rfl, rfl⟩) (by rfl) ?_
    | refine ra_q (j := 3) rfl rfl rfl rfl (n_load_boxagg [_] rfl rfl (Nat.le_of_ble_eq_true rfl) rfl ⟨rfl, rfl⟩) (by rfl) ?_
    | refine ra_q (j := 3) rfl rfl rfl rfl (n_load_arragg [_] rfl rfl rfl (by omega) rfl ⟨rfl, rfl⟩) (by rfl) ?_
  refine ra_q (j := 4) rfl rfl rfl rfl (do_move rfl ⟨rfl, rfl⟩) (by rfl) ?_
  refine ra_q (j := 5) rfl rfl rfl rfl (do_move rfl ⟨rfl, rfl⟩) (by rfl) ?_
  first
    | refine ra_q (j := 6) rfl rfl rfl rfl (do_ixn rfl rfl rfl (by omega) ⟨rfl, rfl⟩) (by rfl) ?_
    | refine ra_q (j := 6) rfl rfl rfl rfl (do_ix0 rfl rfl rfl (by omega) ⟨rfl, rfl⟩) (by rfl) ?_
    | refine ra_q (j := 6) rfl rfl rfl rfl (do_ix rfl rfl rfl (by omega) ⟨rfl, rfl⟩) (by rfl) ?_
  first
    | refine ra_q (j := 7) rfl rfl rfl rfl (do_load_box rfl rfl rfl ⟨rfl, rfl⟩) (by rfl) ?_
    | refine ra_q (j := 7) rfl rfl rfl rfl (do_load_arr rfl rfl (by omega) rfl ⟨rfl, rfl⟩) (by rfl) ?_
    | refine ra_q (j := 7) rfl rfl rfl rfl (n_load_boxagg [_] rfl rfl (Nat.le_of_ble_eq_true rfl) rfl ⟨rfl, rfl⟩) (by rfl) ?_
    | refine ra_q (j := 7) rfl rfl rfl rfl (n_load_arragg [_] rfl rfl rfl (by omega) rfl ⟨rfl, rfl⟩) (by rfl) ?_
  refine n_done ?_
  refine rw_t 24 rfl rfl rfl (do_bin rfl rfl rfl ?_)
  refine rw_nil ?_
  refine w_cond rfl (fun hc3 => ?_) (fun hc3 => ?_)
  all_goals simp only [bs] at hc3
  · refine w_seq ?_
    refine w_region ?_
    refine rw_t 4 rfl rfl rfl (do_assign rfl ?_)
    refine rw_nil ?_
    refine w_ret ?_
    exact ret_eq (.inl rfl) (.cons (res_tmp rfl) .nil) [0, 1] (bool_congr (decide_eq_false (fun h => hc3 (by rw [h]))).symm) ⟨shR rfl, shR rfl, trivial⟩ rfl (pre_ok rfl)
  refine w_skip ?_
  refine w_region ?_
  refine rw_t 25 rfl rfl rfl (do_add rfl rfl (by omega) ?_)
  refine rw_t 13 rfl rfl rfl (do_move rfl ?_)
  refine rw_nil ?_
  refine ⟨i + 1, [0, 1], by dsimp only; omega, ⟨by omega, take_next (by omega) (by omega) hi.2 (by simpa using hc3)⟩, ⟨shR rfl, shR rfl, trivial⟩, rfl, pre_ok rfl, ⟨⟨_, rfl, rfl⟩, ⟨_, rfl, rfl⟩, ⟨_, rfl, rfl⟩, ⟨_, rfl, rfl⟩, trivial⟩⟩
set_option maxHeartbeats 8000000 in
theorem t_Longs (a b : List Int) (hl : a.length < 4611686018427387904) : Tri Try.prog 33 [.slc 0 0 a.length none, .slc 1 0 b.length none] [.ints false .i64 a, .ints false .i64 b] (fun s H => s = .val (.bool (decide (a = b))) ∧ H = [.ints false .i64 a, .ints false .i64 b]) := by
  refine tri_of_w (fn := Try.f33) Try.func33 rfl (by simp [Try.f33]) ?_
  intro ρ w hρ
  refine w_seq ?_
  refine w_region ?_
  refine rw_t 4 rfl rfl rfl (do_assign rfl ?_)
  refine rw_nil ?_
  refine w_seq ?_
  refine w_seq ?_
  refine w_region ?_
  refine rw_t 6 rfl rfl rfl (do_move rfl ?_)
  refine rw_t 7 rfl rfl rfl (do_len rfl ?_)
  refine rw_t 8 rfl rfl rfl (do_move rfl ?_)
  refine rw_t 9 rfl rfl rfl (do_len rfl ?_)
  refine rw_t 10 rfl rfl rfl (do_bin rfl rfl rfl ?_)
  refine rw_nil ?_
  refine w_cond rfl (fun hc1 => ?_) (fun hc1 => ?_)
  all_goals simp only [bs] at hc1
  · refine w_seq ?_
    refine w_region ?_
    refine rw_t 4 rfl rfl rfl (do_assign rfl ?_)
    refine rw_nil ?_
    refine w_ret ?_
    exact ret_eq (.inl rfl) (.cons (res_tmp rfl) .nil) [0, 1] (bool_congr (decide_eq_false (fun h => hc1 (by rw [h]))).symm) ⟨shR rfl, shR rfl, trivial⟩ rfl (pre_ok rfl)
  refine w_skip ?_
  refine w_seq ?_
  refine w_seq ?_
  refine w_region ?_
  refine rw_t 11 rfl rfl rfl (do_move rfl ?_)
  refine rw_t 12 rfl rfl rfl (do_len rfl ?_)
  refine rw_t 13 rfl rfl rfl (do_move rfl ?_)
  refine rw_nil ?_
  refine w_block ?_ -- block 0
  have hab : a.length = b.length := by omega
  refine w_loopS (ι := Nat) (fun i => [(13, .val (.int .i64 ((i : Nat)))), (12, .val (.int .i64 ((a.length : Nat)))), (0, .slc 0 0 a.length none), (1, .slc 1 0 b.length none)]) (fun i => [.ints false .i64 a, .ints false .i64 b]) (fun i => a.length - i) (fun i => i ≤ a.length ∧ a.take i = b.take i) (0) [0, 1] (by simp) ⟨shR rfl, shR rfl, trivial⟩ rfl (pre_ok rfl) hρ ⟨⟨_, rfl, rfl⟩, ⟨_, rfl, rfl⟩, ⟨_, rfl, rfl⟩, ⟨_, rfl, rfl⟩, trivial⟩ ?_
  intro i hi
  refine w_seq ?_
  refine w_region ?_
  refine rw_t 14 rfl rfl rfl (do_bin rfl rfl rfl ?_)
  refine rw_nil ?_
  refine w_seq ?_
  refine w_cond rfl (fun hc2 => ?_) (fun hc2 => ?_)
  all_goals simp only [bs] at hc2
  rotate_left
  · refine w_exit ?_
    refine w_seq ?_
    refine w_region ?_
    refine rw_t 4 rfl rfl rfl (do_assign rfl ?_)
    refine rw_nil ?_
    refine w_ret ?_
    exact ret_eq (.inl rfl) (.cons (res_tmp rfl) .nil) [0, 1] (bool_congr (decide_eq_true (eq_of_take hab (by omega) hi.2)).symm) ⟨shR rfl, shR rfl, trivial⟩ rfl (pre_ok rfl)
  refine w_skip ?_
  refine w_seq ?_
  refine w_block ?_ -- block 1
  refine w_seq ?_
  refine w_region ?_
  refine rw_t 15 rfl rfl rfl (do_move rfl ?_)
  refine rw_t 5 rfl rfl rfl (do_assign rfl ?_)
  refine rw_nil ?_
  refine w_seq ?_
  refine w_draw mixed [0, 0, 3, 7, 0, 0, 48, 112] [255] (by kernel_rfl) (by kernel_rfl) rfl rfl rfl (hle hρ rfl) ?_
  refine ra_q (j := 0) rfl rfl rfl rfl (do_move rfl ⟨rfl, rfl⟩) (by rfl) ?_
  refine ra_q (j := 1) rfl rfl rfl rfl (do_move rfl ⟨rfl, rfl⟩) (by rfl) ?_
  first
    | refine ra_q (j := 2) rfl rfl rfl rfl (do_ixn rfl rfl rfl (by omega) ⟨rfl, rfl⟩) (by rfl) ?_
    | refine ra_q (j := 2) rfl rfl rfl rfl (do_ix0 rfl rfl rfl (by omega) ⟨rfl, rfl⟩) (by rfl) ?_
    | refine ra_q (j := 2) rfl rfl rfl rfl (do_ix rfl rfl rfl (by omega) ⟨rfl, rfl⟩) (by rfl) ?_
  first
    | refine ra_q (j := 3) rfl rfl rfl rfl (do_load_box rfl rfl rfl ⟨rfl, rfl⟩) (by rfl) ?_
    | refine ra_q (j := 3) rfl rfl rfl rfl (do_load_arr rfl rfl (by omega) rfl ⟨rfl, rfl⟩) (by rfl) ?_
    | refine ra_q (j := 3) rfl rfl rfl rfl (n_load_boxagg [_] rfl rfl (Nat.le_of_ble_eq_true rfl) rfl ⟨rfl, rfl⟩) (by rfl) ?_
    | refine ra_q (j := 3) rfl rfl rfl rfl (n_load_arragg [_] rfl rfl rfl (by omega) rfl ⟨rfl, rfl⟩) (by rfl) ?_
  refine ra_q (j := 4) rfl rfl rfl rfl (do_move rfl ⟨rfl, rfl⟩) (by rfl) ?_
  refine ra_q (j := 5) rfl rfl rfl rfl (do_move rfl ⟨rfl, rfl⟩) (by rfl) ?_
  first
    | refine ra_q (j := 6) rfl rfl rfl rfl (do_ixn rfl rfl rfl (by omega) ⟨rfl, rfl⟩) (by rfl) ?_
    | refine ra_q (j := 6) rfl rfl rfl rfl (do_ix0 rfl rfl rfl (by omega) ⟨rfl, rfl⟩) (by rfl) ?_
    | refine ra_q (j := 6) rfl rfl rfl rfl (do_ix rfl rfl rfl (by omega) ⟨rfl, rfl⟩) (by rfl) ?_
  first
    | refine ra_q (j := 7) rfl rfl rfl rfl (do_load_box rfl rfl rfl ⟨rfl, rfl⟩) (by rfl) ?_
    | refine ra_q (j := 7) rfl rfl rfl rfl (do_load_arr rfl rfl (by omega) rfl ⟨rfl, rfl⟩) (by rfl) ?_
    | refine ra_q (j := 7) rfl rfl rfl rfl (n_load_boxagg [_] rfl rfl (Nat.le_of_ble_eq_true rfl) rfl ⟨rfl, rfl⟩) (by rfl) ?_
    | refine ra_q (j := 7) rfl rfl rfl rfl (n_load_arragg [_] rfl rfl rfl (by omega) rfl ⟨rfl, rfl⟩) (by rfl) ?_
  refine n_done ?_
  refine rw_t 24 rfl rfl rfl (do_bin rfl rfl rfl ?_)
  refine rw_nil ?_
  refine w_cond rfl (fun hc3 => ?_) (fun hc3 => ?_)
  all_goals simp only [bs] at hc3
  · refine w_seq ?_
    refine w_region ?_
    refine rw_t 4 rfl rfl rfl (do_assign rfl ?_)
    refine rw_nil ?_
    refine w_ret ?_
    exact ret_eq (.inl rfl) (.cons (res_tmp rfl) .nil) [0, 1] (bool_congr (decide_eq_false (fun h => hc3 (by rw [h]))).symm) ⟨shR rfl, shR rfl, trivial⟩ rfl (pre_ok rfl)
  refine w_skip ?_
  refine w_region ?_
  refine rw_t 25 rfl rfl rfl (do_add rfl rfl (by omega) ?_)
  refine rw_t 13 rfl rfl rfl (do_move rfl ?_)
  refine rw_nil ?_
  refine ⟨i + 1, [0, 1], by dsimp only; omega, ⟨by omega, take_next (by omega) (by omega) hi.2 (by simpa using hc3)⟩, ⟨shR rfl, shR rfl, trivial⟩, rfl, pre_ok rfl, ⟨⟨_, rfl, rfl⟩, ⟨_, rfl, rfl⟩, ⟨_, rfl, rfl⟩, ⟨_, rfl, rfl⟩, trivial⟩⟩
end Go.Proofs

set_option linter.unusedVariables false
namespace Go.Proofs
open Go Go.Sx Go.RowKit
/-- An arc of a net; a net. -/
structure Arc where
  frm : Int
  to : Int
  cap : Int
abbrev Arc.none : Arc := ⟨0, 0, 0⟩
abbrev encArc (a : Arc) : List Value := [.int .i64 a.frm, .int .i64 a.to, .int .i64 a.cap]
abbrev SO.arcs (own : Bool) (xs : List Arc) : SO := .arr Arc own 3 encArc Arc.none xs
structure Net where
  N : Int
  S : Int
  T : Int
  arcs : List Arc
abbrev Net.sv (n : Net) (o : Nat) : SV := .agg [.val (.int .i64 n.N), .val (.int .i64 n.S), .val (.int .i64 n.T), .slc o 0 n.arcs.length none]
def capSum (l : List Arc) : Int := (l.map (·.cap)).sum
/-- A net that is right (P1.1). -/
structure NetOK (n : Net) : Prop where
  lo : 2 ≤ n.N
  hi : n.N ≤ 4096
  many : n.arcs.length ≤ 16384
  s : 0 ≤ n.S ∧ n.S < n.N
  t : 0 ≤ n.T ∧ n.T < n.N
  st : n.S ≠ n.T
  ends : ∀ a ∈ n.arcs, 0 ≤ a.frm ∧ a.frm < n.N ∧ 0 ≤ a.to ∧ a.to < n.N ∧ 0 ≤ a.cap
  sum : capSum n.arcs ≤ 4611686018427387904
theorem getD_mem {α : Type} {l : List α} {i : Nat} (d : α) (h : i < l.length) : l.getD i d ∈ l := by
  rw [List.getD, List.getElem?_eq_getElem h]; exact List.getElem_mem h
theorem take_snoc {α : Type} {l : List α} {i : Nat} (d : α) (h : i < l.length) : l.take (i + 1) = l.take i ++ [l.getD i d] := by
  rw [List.take_succ_eq_append_getElem h, List.getD, List.getElem?_eq_getElem h]; rfl
theorem capSum_nonneg : ∀ {l : List Arc}, (∀ a ∈ l, 0 ≤ a.cap) → 0 ≤ capSum l
  | [], _ => by simp [capSum]
  | a :: l, h => by
    have h1 := h a (by simp)
    have h2 := capSum_nonneg (l := l) (fun b hb => h b (by simp [hb]))
    simp only [capSum, List.map_cons, List.sum_cons] at h2 ⊢
    omega
theorem capSum_append (l m : List Arc) : capSum (l ++ m) = capSum l + capSum m := by simp [capSum]
theorem NetOK.arc {n : Net} (h : NetOK n) {i : Nat} (hi : i < n.arcs.length) : 0 ≤ (n.arcs.getD i Arc.none).frm ∧ (n.arcs.getD i Arc.none).frm < n.N ∧ 0 ≤ (n.arcs.getD i Arc.none).to ∧ (n.arcs.getD i Arc.none).to < n.N ∧ 0 ≤ (n.arcs.getD i Arc.none).cap := h.ends _ (getD_mem _ hi)
theorem NetOK.part {n : Net} (h : NetOK n) (i : Nat) : 0 ≤ capSum (n.arcs.take i) ∧ capSum (n.arcs.take i) ≤ 4611686018427387904 := by
  have h1 : n.arcs = n.arcs.take i ++ n.arcs.drop i := (List.take_append_drop _ _).symm
  have h2 := capSum_append (n.arcs.take i) (n.arcs.drop i)
  rw [← h1] at h2
  have h3 : 0 ≤ capSum (n.arcs.drop i) := capSum_nonneg fun a ha => (h.ends a (List.mem_of_mem_drop ha)).2.2.2.2
  have h4 : 0 ≤ capSum (n.arcs.take i) := capSum_nonneg fun a ha => (h.ends a (List.mem_of_mem_take ha)).2.2.2.2
  have := h.sum
  omega
theorem capSum_next {n : Net} {i : Nat} (hi : i < n.arcs.length) : capSum (n.arcs.take (i + 1)) = capSum (n.arcs.take i) + (n.arcs.getD i Arc.none).cap := by
  rw [take_snoc Arc.none hi, capSum_append]; simp [capSum]
set_option maxHeartbeats 8000000 in
theorem t_vertex (n : Net) (v : Int) (h : 0 ≤ v ∧ v < n.N) : Tri Try.prog 73 [n.sv 0, .val (.int .i64 v)] [SO.arcs false n.arcs] (fun s H => s = .val (.bool true) ∧ H = [SO.arcs false n.arcs]) := by
  refine tri_of_w (fn := Try.f73) Try.func73 rfl (by simp [Try.f73]) ?_
  intro ρ w hρ
  refine w_seq ?_
  refine w_region ?_
  refine rw_t 2 rfl rfl rfl (n_box_agg (n := 1) rfl  rfl ?_)
  refine rw_t 4 rfl rfl rfl (do_assign rfl ?_)
  refine rw_nil ?_
  refine w_seq ?_
  refine w_region ?_
  refine rw_t 5 rfl rfl rfl (do_move rfl ?_)
  refine rw_t 6 rfl rfl rfl (do_bin rfl rfl rfl ?_)
  refine rw_t 7 rfl rfl rfl (do_move rfl ?_)
  refine rw_gt 8 2 7 true rfl rfl rfl rfl rfl rfl (by first | rfl | assumption | (simp only [bs]; omega) | (simp [*]; done)) (do_move rfl ?_)
  refine rw_gt 9 2 7 true rfl rfl rfl rfl rfl rfl (by first | rfl | assumption | (simp only [bs]; omega) | (simp [*]; done)) (do_fieldaddr rfl ?_)
  first
    | refine rw_gt 10 2 7 true rfl rfl rfl rfl rfl rfl (by first | rfl | assumption | (simp only [bs]; omega) | (simp [*]; done)) (do_load_box rfl rfl rfl ?_)
    | refine rw_gt 10 2 7 true rfl rfl rfl rfl rfl rfl (by first | rfl | assumption | (simp only [bs]; omega) | (simp [*]; done)) (do_load_arr rfl rfl (by omega) rfl ?_)
    | refine rw_gt 10 2 7 true rfl rfl rfl rfl rfl rfl (by first | rfl | assumption | (simp only [bs]; omega) | (simp [*]; done)) (n_load_boxagg [_] rfl rfl (Nat.le_of_ble_eq_true rfl) rfl ?_)
    | refine rw_gt 10 2 7 true rfl rfl rfl rfl rfl rfl (by first | rfl | assumption | (simp only [bs]; omega) | (simp [*]; done)) (n_load_arragg [_] rfl rfl rfl (by omega) rfl ?_)
  refine rw_gt 11 2 7 true rfl rfl rfl rfl rfl rfl (by first | rfl | assumption | (simp only [bs]; omega) | (simp [*]; done)) (do_bin rfl rfl rfl ?_)
  refine rw_t 12 rfl rfl rfl (do_pick_t rfl (by first | rfl | assumption | (simp only [bs]; omega) | (simp [*]; done)) rfl ?_)
  refine rw_t 4 rfl rfl rfl (do_assign rfl ?_)
  refine rw_nil ?_
  refine w_ret ?_
  exact ret_eq (.inl rfl) (.cons (res_tmp rfl) .nil) [0] (bool_congr (by simp; omega)) ⟨shR rfl, trivial⟩ rfl (pre_ok rfl)
set_option maxHeartbeats 8000000 in
theorem t_Sum (n : Net) (h : NetOK n) : Tri Try.prog 74 [n.sv 0] [SO.arcs false n.arcs] (fun s H => s = .tup [.val (.int .i64 (capSum n.arcs)), .val (.bool true)] ∧ H = [SO.arcs false n.arcs]) := by
  refine tri_of_w (fn := Try.f74) Try.func74 rfl (by simp [Try.f74]) ?_
  intro ρ w hρ
  refine w_seq ?_
  refine w_region ?_
  refine rw_t 1 rfl rfl rfl (n_box_agg (n := 1) rfl  rfl ?_)
  refine rw_t 2 rfl rfl rfl (do_assign rfl ?_)
  refine rw_t 3 rfl rfl rfl (do_assign rfl ?_)
  refine rw_nil ?_
  refine w_seq ?_
  refine w_region ?_
  refine rw_t 4 rfl rfl rfl (do_assign rfl ?_)
  refine rw_nil ?_
  refine w_seq ?_
  refine w_seq ?_
  refine w_region ?_
  refine rw_t 5 rfl rfl rfl (do_assign rfl ?_)
  refine rw_nil ?_
  refine w_block ?_ -- block 0
  have hmany := h.many
  refine w_loopS (ι := Nat) (fun i => [(4, .val (.int .i64 (capSum (n.arcs.take i)))), (5, .val (.int .i64 ((i : Nat)))), (1, .ptr 1 0 0)]) (fun i => [SO.arcs false n.arcs, .box [.val (.int .i64 n.N), .val (.int .i64 n.S), .val (.int .i64 n.T), .slc 0 0 n.arcs.length none]]) (fun i => n.arcs.length - i) (fun i => i ≤ n.arcs.length) (0) [0, 1] (by simp) ⟨shR rfl, shR rfl, trivial⟩ rfl (pre_ok rfl) hρ ⟨⟨_, rfl, rfl⟩, ⟨_, rfl, rfl⟩, ⟨_, rfl, rfl⟩, trivial⟩ ?_
  intro i hi
  refine w_seq ?_
  refine w_seq ?_
  refine w_region ?_
  refine rw_t 7 rfl rfl rfl (do_move rfl ?_)
  refine rw_t 8 rfl rfl rfl (do_fieldaddr rfl ?_)
  first
    | refine rw_t 9 rfl rfl rfl (do_load_box rfl rfl rfl ?_)
    | refine rw_t 9 rfl rfl rfl (do_load_arr rfl rfl (by omega) rfl ?_)
    | refine rw_t 9 rfl rfl rfl (n_load_boxagg [_] rfl rfl (Nat.le_of_ble_eq_true rfl) rfl ?_)
    | refine rw_t 9 rfl rfl rfl (n_load_arragg [_] rfl rfl rfl (by omega) rfl ?_)
  refine rw_t 10 rfl rfl rfl (do_len rfl ?_)
  refine rw_t 11 rfl rfl rfl (do_bin rfl rfl rfl ?_)
  refine rw_nil ?_
  refine w_cond rfl (fun hc1 => ?_) (fun hc1 => ?_)
  all_goals simp only [bs] at hc1
  rotate_left
  · refine w_exit ?_
    refine w_seq ?_
    refine w_region ?_
    refine rw_t 31 rfl rfl rfl (do_move rfl ?_)
    refine rw_t 2 rfl rfl rfl (do_assign rfl ?_)
    refine rw_t 3 rfl rfl rfl (do_assign rfl ?_)
    refine rw_nil ?_
    refine w_ret ?_
    exact ret_eq (.inl rfl) (.cons (res_tmp rfl) (.cons (res_tmp rfl) .nil)) [0] (by rw [List.take_of_length_le (by omega)]; rfl) ⟨shR rfl, trivial⟩ rfl (pre_ok rfl)
  refine w_skip ?_
  refine w_seq ?_
  refine w_block ?_ -- block 1
  refine w_seq ?_
  refine w_region ?_
  refine rw_t 14 rfl rfl rfl (do_fieldaddr rfl ?_)
  first
    | refine rw_t 15 rfl rfl rfl (do_load_box rfl rfl rfl ?_)
    | refine rw_t 15 rfl rfl rfl (do_load_arr rfl rfl (by omega) rfl ?_)
    | refine rw_t 15 rfl rfl rfl (n_load_boxagg [_] rfl rfl (Nat.le_of_ble_eq_true rfl) rfl ?_)
    | refine rw_t 15 rfl rfl rfl (n_load_arragg [_] rfl rfl rfl (by omega) rfl ?_)
  refine rw_t 16 rfl rfl rfl (do_move rfl ?_)
  first
    | refine rw_t 17 rfl rfl rfl (do_ixn rfl rfl rfl (by omega) ?_)
    | refine rw_t 17 rfl rfl rfl (do_ix0 rfl rfl rfl (by omega) ?_)
    | refine rw_t 17 rfl rfl rfl (do_ix rfl rfl rfl (by omega) ?_)
  refine rw_t 18 rfl rfl rfl (do_fieldaddr rfl ?_)
  first
    | refine rw_t 19 rfl rfl rfl (do_load_box rfl rfl rfl ?_)
    | refine rw_t 19 rfl rfl rfl (do_load_arr rfl rfl (by omega) rfl ?_)
    | refine rw_t 19 rfl rfl rfl (n_load_boxagg [_] rfl rfl (Nat.le_of_ble_eq_true rfl) rfl ?_)
    | refine rw_t 19 rfl rfl rfl (n_load_arragg [_] rfl rfl rfl (by omega) rfl ?_)
  refine rw_t 6 rfl rfl rfl (do_assign rfl ?_)
  refine rw_nil ?_
  refine w_seq ?_
  refine w_seq ?_
  have hc := h.arc (i := i) (by omega)
  have hs := h.part i
  have hs' := h.part (i + 1)
  rw [capSum_next (by omega)] at hs'
  refine w_region ?_
  refine rw_t 20 rfl rfl rfl (do_move rfl ?_)
  refine rw_t 21 rfl rfl rfl (do_bin rfl rfl rfl ?_)
  refine rw_t 22 rfl rfl rfl (do_move rfl ?_)
  refine rw_gt 23 2 22 false rfl rfl rfl rfl rfl rfl (by first | rfl | assumption | (simp only [bs]; omega) | (simp [*]; done)) (do_move rfl ?_)
  refine rw_gt 24 2 22 false rfl rfl rfl rfl rfl rfl (by first | rfl | assumption | (simp only [bs]; omega) | (simp [*]; done)) (do_move rfl ?_)
  refine rw_gt 25 2 22 false rfl rfl rfl rfl rfl rfl (by first | rfl | assumption | (simp only [bs]; omega) | (simp [*]; done)) (do_sub rfl rfl (by omega) ?_)
  refine rw_gt 26 2 22 false rfl rfl rfl rfl rfl rfl (by first | rfl | assumption | (simp only [bs]; omega) | (simp [*]; done)) (do_bin rfl rfl rfl ?_)
  refine rw_t 27 rfl rfl rfl (do_pick_f rfl (by first | rfl | assumption | (simp only [bs]; omega) | (simp [*]; done)) rfl ?_)
  refine rw_nil ?_
  refine w_cond rfl (fun hc2 => ?_) (fun hc2 => ?_)
  · exfalso; first | (cases hc2; done) | (simp only [bs] at hc2; omega)
  refine w_skip ?_
  refine w_region ?_
  refine rw_t 28 rfl rfl rfl (do_move rfl ?_)
  refine rw_t 29 rfl rfl rfl (do_move rfl ?_)
  refine rw_t 30 rfl rfl rfl (do_add rfl rfl (by omega) ?_)
  refine rw_t 4 rfl rfl rfl (do_assign rfl ?_)
  refine rw_nil ?_
  refine w_region ?_
  refine rw_t 12 rfl rfl rfl (do_move rfl ?_)
  refine rw_t 13 rfl rfl rfl (do_add rfl rfl (by omega) ?_)
  refine rw_t 5 rfl rfl rfl (do_assign rfl ?_)
  refine rw_nil ?_
  refine ⟨i + 1, [0, 1], by dsimp only; omega, by omega, ⟨shR rfl, shR rfl, trivial⟩, rfl, pre_ok rfl, ⟨⟨_, rfl, val_congr (capSum_next (by omega)).symm⟩, ⟨_, rfl, rfl⟩, ⟨_, rfl, rfl⟩, trivial⟩⟩
set_option maxHeartbeats 8000000 in
theorem t_Check (n : Net) (h : NetOK n) : Tri Try.prog 41 [n.sv 0] [SO.arcs false n.arcs] (fun s H => s = .val (.int .i64 0) ∧ H = [SO.arcs false n.arcs]) := by
  refine tri_of_w (fn := Try.f41) Try.func41 rfl (by simp [Try.f41]) ?_
  intro ρ w hρ
  refine w_seq ?_
  have h1 := h.lo
  have h2 := h.hi
  have h3 := h.many
  have h4 := h.s
  have h5 := h.t
  have h6 := h.st
  refine w_region ?_
  refine rw_t 1 rfl rfl rfl (n_box_agg (n := 1) rfl  rfl ?_)
  refine rw_t 2 rfl rfl rfl (do_assign rfl ?_)
  refine rw_nil ?_
  refine w_seq ?_
  refine w_seqB 15 (False) ?_ ?_
  · -- region 1
    refine w_region ?_
    refine rw_t 8 rfl rfl rfl (do_fieldaddr rfl ?_)
    first
      | refine rw_t 9 rfl rfl rfl (do_load_box rfl rfl rfl ?_)
      | refine rw_t 9 rfl rfl rfl (do_load_arr rfl rfl (by omega) rfl ?_)
      | refine rw_t 9 rfl rfl rfl (n_load_boxagg [_] rfl rfl (Nat.le_of_ble_eq_true rfl) rfl ?_)
      | refine rw_t 9 rfl rfl rfl (n_load_arragg [_] rfl rfl rfl (by omega) rfl ?_)
    refine rw_t 10 rfl rfl rfl (do_bin rfl rfl rfl ?_)
    refine rw_t 11 rfl rfl rfl (do_move rfl ?_)
    refine rw_gt 12 3 11 false rfl rfl rfl rfl rfl rfl (by first | rfl | assumption | (simp only [bs]; omega) | (simp [*]; done)) (do_fieldaddr rfl ?_)
    first
      | refine rw_gt 13 3 11 false rfl rfl rfl rfl rfl rfl (by first | rfl | assumption | (simp only [bs]; omega) | (simp [*]; done)) (do_load_box rfl rfl rfl ?_)
      | refine rw_gt 13 3 11 false rfl rfl rfl rfl rfl rfl (by first | rfl | assumption | (simp only [bs]; omega) | (simp [*]; done)) (do_load_arr rfl rfl (by omega) rfl ?_)
      | refine rw_gt 13 3 11 false rfl rfl rfl rfl rfl rfl (by first | rfl | assumption | (simp only [bs]; omega) | (simp [*]; done)) (n_load_boxagg [_] rfl rfl (Nat.le_of_ble_eq_true rfl) rfl ?_)
      | refine rw_gt 13 3 11 false rfl rfl rfl rfl rfl rfl (by first | rfl | assumption | (simp only [bs]; omega) | (simp [*]; done)) (n_load_arragg [_] rfl rfl rfl (by omega) rfl ?_)
    refine rw_gt 14 3 11 false rfl rfl rfl rfl rfl rfl (by first | rfl | assumption | (simp only [bs]; omega) | (simp [*]; done)) (do_bin rfl rfl rfl ?_)
    refine rw_t 15 rfl rfl rfl (do_pick_f rfl (by first | rfl | assumption | (simp only [bs]; omega) | (simp [*]; done)) rfl ?_)
    refine rw_nil ?_
    refine ⟨rfl, ⟨_, rfl, by first | (simp only [bs]; omega) | (simp; done) | (simp; omega) | (constructor <;> intro h <;> simp_all <;> omega)⟩, ?_⟩
    repeat (refine ⟨⟨_, rfl, rfl⟩, ?_⟩)
    exact trivial
  intro b1 hb1
  refine w_condP hb1 rfl (fun hc1 => ?_) (fun hc1 => ?_)
  · exact (hc1).elim
  refine w_skip ?_
  refine w_seq ?_
  refine w_seq ?_
  refine w_region ?_
  refine rw_t 16 rfl rfl rfl (do_fieldaddr rfl ?_)
  first
    | refine rw_t 17 rfl rfl rfl (do_load_box rfl rfl rfl ?_)
    | refine rw_t 17 rfl rfl rfl (do_load_arr rfl rfl (by omega) rfl ?_)
    | refine rw_t 17 rfl rfl rfl (n_load_boxagg [_] rfl rfl (Nat.le_of_ble_eq_true rfl) rfl ?_)
    | refine rw_t 17 rfl rfl rfl (n_load_arragg [_] rfl rfl rfl (by omega) rfl ?_)
  refine rw_t 18 rfl rfl rfl (do_len rfl ?_)
  refine rw_t 19 rfl rfl rfl (do_bin rfl rfl rfl ?_)
  refine rw_nil ?_
  refine w_cond rfl (fun hc2 => ?_) (fun hc2 => ?_)
  · exfalso; first | (cases hc2; done) | (simp only [bs] at hc2; omega)
  refine w_skip ?_
  refine w_seq ?_
  refine w_seqB 38 (False) ?_ ?_
  · -- region 5
    refine w_region ?_
    first
      | refine rw_t 20 rfl rfl rfl (do_load_box rfl rfl rfl ?_)
      | refine rw_t 20 rfl rfl rfl (do_load_arr rfl rfl (by omega) rfl ?_)
      | refine rw_t 20 rfl rfl rfl (n_load_boxagg [_, _, _, _] rfl rfl (Nat.le_of_ble_eq_true rfl) rfl ?_)
      | refine rw_t 20 rfl rfl rfl (n_load_arragg [_, _, _, _] rfl rfl rfl (by omega) rfl ?_)
    refine rw_t 21 rfl rfl rfl (do_fieldaddr rfl ?_)
    first
      | refine rw_t 22 rfl rfl rfl (do_load_box rfl rfl rfl ?_)
      | refine rw_t 22 rfl rfl rfl (do_load_arr rfl rfl (by omega) rfl ?_)
      | refine rw_t 22 rfl rfl rfl (n_load_boxagg [_] rfl rfl (Nat.le_of_ble_eq_true rfl) rfl ?_)
      | refine rw_t 22 rfl rfl rfl (n_load_arragg [_] rfl rfl rfl (by omega) rfl ?_)
    refine rw_t 23 rfl rfl rfl (do_callR rfl rfl (t_vertex n _ h.s) [0] ⟨.inr ⟨_, rfl, srv⟩, trivial⟩ rfl rfl rfl ?_)
    refine rw_t 24 rfl rfl rfl (do_not rfl ?_)
    refine rw_t 25 rfl rfl rfl (do_move rfl ?_)
    first
      | refine rw_gt 26 5 25 false rfl rfl rfl rfl rfl rfl (by first | rfl | assumption | (simp only [bs]; omega) | (simp [*]; done)) (do_load_box rfl rfl rfl ?_)
      | refine rw_gt 26 5 25 false rfl rfl rfl rfl rfl rfl (by first | rfl | assumption | (simp only [bs]; omega) | (simp [*]; done)) (do_load_arr rfl rfl (by omega) rfl ?_)
      | refine rw_gt 26 5 25 false rfl rfl rfl rfl rfl rfl (by first | rfl | assumption | (simp only [bs]; omega) | (simp [*]; done)) (n_load_boxagg [_, _, _, _] rfl rfl (Nat.le_of_ble_eq_true rfl) rfl ?_)
      | refine rw_gt 26 5 25 false rfl rfl rfl rfl rfl rfl (by first | rfl | assumption | (simp only [bs]; omega) | (simp [*]; done)) (n_load_arragg [_, _, _, _] rfl rfl rfl (by omega) rfl ?_)
    refine rw_gt 27 5 25 false rfl rfl rfl rfl rfl rfl (by first | rfl | assumption | (simp only [bs]; omega) | (simp [*]; done)) (do_fieldaddr rfl ?_)
    first
      | refine rw_gt 28 5 25 false rfl rfl rfl rfl rfl rfl (by first | rfl | assumption | (simp only [bs]; omega) | (simp [*]; done)) (do_load_box rfl rfl rfl ?_)
      | refine rw_gt 28 5 25 false rfl rfl rfl rfl rfl rfl (by first | rfl | assumption | (simp only [bs]; omega) | (simp [*]; done)) (do_load_arr rfl rfl (by omega) rfl ?_)
      | refine rw_gt 28 5 25 false rfl rfl rfl rfl rfl rfl (by first | rfl | assumption | (simp only [bs]; omega) | (simp [*]; done)) (n_load_boxagg [_] rfl rfl (Nat.le_of_ble_eq_true rfl) rfl ?_)
      | refine rw_gt 28 5 25 false rfl rfl rfl rfl rfl rfl (by first | rfl | assumption | (simp only [bs]; omega) | (simp [*]; done)) (n_load_arragg [_] rfl rfl rfl (by omega) rfl ?_)
    refine rw_gt 29 5 25 false rfl rfl rfl rfl rfl rfl (by first | rfl | assumption | (simp only [bs]; omega) | (simp [*]; done)) (do_callR rfl rfl (t_vertex n _ h.t) [0] ⟨.inr ⟨_, rfl, srv⟩, trivial⟩ rfl rfl rfl ?_)
    refine rw_gt 30 5 25 false rfl rfl rfl rfl rfl rfl (by first | rfl | assumption | (simp only [bs]; omega) | (simp [*]; done)) (do_not rfl ?_)
    refine rw_t 31 rfl rfl rfl (do_pick_f rfl (by first | rfl | assumption | (simp only [bs]; omega) | (simp [*]; done)) rfl ?_)
    refine rw_t 32 rfl rfl rfl (do_move rfl ?_)
    refine rw_gt 33 12 32 false rfl rfl rfl rfl rfl rfl (by first | rfl | assumption | (simp only [bs]; omega) | (simp [*]; done)) (do_fieldaddr rfl ?_)
    first
      | refine rw_gt 34 12 32 false rfl rfl rfl rfl rfl rfl (by first | rfl | assumption | (simp only [bs]; omega) | (simp [*]; done)) (do_load_box rfl rfl rfl ?_)
      | refine rw_gt 34 12 32 false rfl rfl rfl rfl rfl rfl (by first | rfl | assumption | (simp only [bs]; omega) | (simp [*]; done)) (do_load_arr rfl rfl (by omega) rfl ?_)
      | refine rw_gt 34 12 32 false rfl rfl rfl rfl rfl rfl (by first | rfl | assumption | (simp only [bs]; omega) | (simp [*]; done)) (n_load_boxagg [_] rfl rfl (Nat.le_of_ble_eq_true rfl) rfl ?_)
      | refine rw_gt 34 12 32 false rfl rfl rfl rfl rfl rfl (by first | rfl | assumption | (simp only [bs]; omega) | (simp [*]; done)) (n_load_arragg [_] rfl rfl rfl (by omega) rfl ?_)
    refine rw_gt 35 12 32 false rfl rfl rfl rfl rfl rfl (by first | rfl | assumption | (simp only [bs]; omega) | (simp [*]; done)) (do_fieldaddr rfl ?_)
    first
      | refine rw_gt 36 12 32 false rfl rfl rfl rfl rfl rfl (by first | rfl | assumption | (simp only [bs]; omega) | (simp [*]; done)) (do_load_box rfl rfl rfl ?_)
      | refine rw_gt 36 12 32 false rfl rfl rfl rfl rfl rfl (by first | rfl | assumption | (simp only [bs]; omega) | (simp [*]; done)) (do_load_arr rfl rfl (by omega) rfl ?_)
      | refine rw_gt 36 12 32 false rfl rfl rfl rfl rfl rfl (by first | rfl | assumption | (simp only [bs]; omega) | (simp [*]; done)) (n_load_boxagg [_] rfl rfl (Nat.le_of_ble_eq_true rfl) rfl ?_)
      | refine rw_gt 36 12 32 false rfl rfl rfl rfl rfl rfl (by first | rfl | assumption | (simp only [bs]; omega) | (simp [*]; done)) (n_load_arragg [_] rfl rfl rfl (by omega) rfl ?_)
    refine rw_gt 37 12 32 false rfl rfl rfl rfl rfl rfl (by first | rfl | assumption | (simp only [bs]; omega) | (simp [*]; done)) (do_bin rfl rfl rfl ?_)
    refine rw_t 38 rfl rfl rfl (do_pick_f rfl (by first | rfl | assumption | (simp only [bs]; omega) | (simp [*]; done)) rfl ?_)
    refine rw_nil ?_
    refine ⟨rfl, ⟨_, rfl, by first | (simp only [bs]; omega) | (simp; done) | (simp; omega) | (constructor <;> intro h <;> simp_all <;> omega)⟩, ?_⟩
    repeat (refine ⟨⟨_, rfl, rfl⟩, ?_⟩)
    exact trivial
  intro b2 hb2
  refine w_condP hb2 rfl (fun hc3 => ?_) (fun hc3 => ?_)
  · exact (hc3).elim
  refine w_skip ?_
  refine w_seq ?_
  refine w_region ?_
  refine rw_t 3 rfl rfl rfl (do_assign rfl ?_)
  refine rw_nil ?_
  refine w_seq ?_
  refine w_seq ?_
  refine w_region ?_
  refine rw_t 4 rfl rfl rfl (do_assign rfl ?_)
  refine rw_nil ?_
  refine w_block ?_ -- block 0
  refine w_loopS (ι := Nat) (fun i => [(3, .val (.bool false)), (4, .val (.int .i64 ((i : Nat)))), (1, .ptr 1 0 0)]) (fun i => [SO.arcs false n.arcs, .box [.val (.int .i64 n.N), .val (.int .i64 n.S), .val (.int .i64 n.T), .slc 0 0 n.arcs.length none]]) (fun i => n.arcs.length - i) (fun i => i ≤ n.arcs.length) (0) [0, 1] (by simp) ⟨shR rfl, shR rfl, trivial⟩ rfl (pre_ok rfl) hρ ⟨⟨_, rfl, rfl⟩, ⟨_, rfl, rfl⟩, ⟨_, rfl, rfl⟩, trivial⟩ ?_
  intro i hi
  refine w_seq ?_
  refine w_seq ?_
  refine w_region ?_
  refine rw_t 39 rfl rfl rfl (do_move rfl ?_)
  refine rw_t 40 rfl rfl rfl (do_fieldaddr rfl ?_)
  first
    | refine rw_t 41 rfl rfl rfl (do_load_box rfl rfl rfl ?_)
    | refine rw_t 41 rfl rfl rfl (do_load_arr rfl rfl (by omega) rfl ?_)
    | refine rw_t 41 rfl rfl rfl (n_load_boxagg [_] rfl rfl (Nat.le_of_ble_eq_true rfl) rfl ?_)
    | refine rw_t 41 rfl rfl rfl (n_load_arragg [_] rfl rfl rfl (by omega) rfl ?_)
  refine rw_t 42 rfl rfl rfl (do_len rfl ?_)
  refine rw_t 43 rfl rfl rfl (do_bin rfl rfl rfl ?_)
  refine rw_nil ?_
  refine w_cond rfl (fun hc4 => ?_) (fun hc4 => ?_)
  all_goals simp only [bs] at hc4
  rotate_left
  · refine w_exit ?_
    refine w_seq ?_
    refine w_seq ?_
    refine w_region ?_
    refine rw_t 69 rfl rfl rfl (do_move rfl ?_)
    refine rw_nil ?_
    refine w_cond rfl (fun hc5 => ?_) (fun hc5 => ?_)
    · exfalso; first | (cases hc5; done) | (simp only [bs] at hc5; omega)
    refine w_skip ?_
    refine w_seq ?_
    refine w_region ?_
    first
      | refine rw_t 71 rfl rfl rfl (do_load_box rfl rfl rfl ?_)
      | refine rw_t 71 rfl rfl rfl (do_load_arr rfl rfl (by omega) rfl ?_)
      | refine rw_t 71 rfl rfl rfl (n_load_boxagg [_, _, _, _] rfl rfl (Nat.le_of_ble_eq_true rfl) rfl ?_)
      | refine rw_t 71 rfl rfl rfl (n_load_arragg [_, _, _, _] rfl rfl rfl (by omega) rfl ?_)
    refine rw_t 72 rfl rfl rfl (do_callR rfl rfl (t_Sum n h) [0] ⟨.inr ⟨_, rfl, srv⟩, trivial⟩ rfl rfl rfl ?_)
    refine rw_t 70 rfl rfl rfl (do_move rfl ?_)
    refine rw_t 73 rfl rfl rfl (do_extract rfl rfl ?_)
    refine rw_t 74 rfl rfl rfl (do_extract rfl rfl ?_)
    refine rw_t 6 rfl rfl rfl (do_assign rfl ?_)
    refine rw_t 7 rfl rfl rfl (do_assign rfl ?_)
    refine rw_nil ?_
    refine w_seq ?_
    refine w_seq ?_
    refine w_region ?_
    refine rw_t 75 rfl rfl rfl (do_move rfl ?_)
    refine rw_t 76 rfl rfl rfl (do_not rfl ?_)
    refine rw_nil ?_
    refine w_cond rfl (fun hc6 => ?_) (fun hc6 => ?_)
    · exfalso; first | (cases hc6; done) | (simp only [bs] at hc6; omega)
    refine w_skip ?_
    refine w_seq ?_
    refine w_region ?_
    refine rw_t 2 rfl rfl rfl (do_assign rfl ?_)
    refine rw_nil ?_
    refine w_ret ?_
    exact ret_eq (.inl rfl) (.cons (res_tmp rfl) .nil) [0] (rfl) ⟨shR rfl, trivial⟩ rfl (pre_ok rfl)
  refine w_skip ?_
  refine w_seq ?_
  refine w_block ?_ -- block 1
  refine w_seq ?_
  have hc := h.arc (i := i) (by omega)
  refine w_region ?_
  refine rw_t 46 rfl rfl rfl (do_fieldaddr rfl ?_)
  first
    | refine rw_t 47 rfl rfl rfl (do_load_box rfl rfl rfl ?_)
    | refine rw_t 47 rfl rfl rfl (do_load_arr rfl rfl (by omega) rfl ?_)
    | refine rw_t 47 rfl rfl rfl (n_load_boxagg [_] rfl rfl (Nat.le_of_ble_eq_true rfl) rfl ?_)
    | refine rw_t 47 rfl rfl rfl (n_load_arragg [_] rfl rfl rfl (by omega) rfl ?_)
  refine rw_t 48 rfl rfl rfl (do_move rfl ?_)
  first
    | refine rw_t 49 rfl rfl rfl (do_ixn rfl rfl rfl (by omega) ?_)
    | refine rw_t 49 rfl rfl rfl (do_ix0 rfl rfl rfl (by omega) ?_)
    | refine rw_t 49 rfl rfl rfl (do_ix rfl rfl rfl (by omega) ?_)
  first
    | refine rw_t 50 rfl rfl rfl (do_load_box rfl rfl rfl ?_)
    | refine rw_t 50 rfl rfl rfl (do_load_arr rfl rfl (by omega) rfl ?_)
    | refine rw_t 50 rfl rfl rfl (n_load_boxagg [_, _, _] rfl rfl (Nat.le_of_ble_eq_true rfl) rfl ?_)
    | refine rw_t 50 rfl rfl rfl (n_load_arragg [_, _, _] rfl rfl rfl (by omega) rfl ?_)
  refine rw_t 5 rfl rfl rfl (n_alloc (n := 2) rfl ?_)
  first
    | refine rw_u rfl rfl (n_store_box rfl rfl rfl (Nat.le_of_ble_eq_true rfl) rfl ?_)
    | refine rw_u rfl rfl (n_store_arr rfl rfl rfl (by omega) rfl (by decide) rfl ?_)
    | refine rw_u rfl rfl (n_store_whole rfl rfl rfl rfl rfl rfl ?_)
  refine rw_nil ?_
  refine w_seq ?_
  refine w_seqB 62 (False) ?_ ?_
  · -- region 12
    refine w_region ?_
    first
      | refine rw_t 51 rfl rfl rfl (do_load_box rfl rfl rfl ?_)
      | refine rw_t 51 rfl rfl rfl (do_load_arr rfl rfl (by omega) rfl ?_)
      | refine rw_t 51 rfl rfl rfl (n_load_boxagg [_, _, _, _] rfl rfl (Nat.le_of_ble_eq_true rfl) rfl ?_)
      | refine rw_t 51 rfl rfl rfl (n_load_arragg [_, _, _, _] rfl rfl rfl (by omega) rfl ?_)
    refine rw_t 52 rfl rfl rfl (do_fieldaddr rfl ?_)
    first
      | refine rw_t 53 rfl rfl rfl (do_load_box rfl rfl rfl ?_)
      | refine rw_t 53 rfl rfl rfl (do_load_arr rfl rfl (by omega) rfl ?_)
      | refine rw_t 53 rfl rfl rfl (n_load_boxagg [_] rfl rfl (Nat.le_of_ble_eq_true rfl) rfl ?_)
      | refine rw_t 53 rfl rfl rfl (n_load_arragg [_] rfl rfl rfl (by omega) rfl ?_)
    refine rw_t 54 rfl rfl rfl (do_callR rfl rfl (t_vertex n _ ⟨hc.1, hc.2.1⟩) [0] ⟨.inr ⟨_, rfl, srv⟩, trivial⟩ rfl rfl rfl ?_)
    refine rw_t 55 rfl rfl rfl (do_not rfl ?_)
    refine rw_t 56 rfl rfl rfl (do_move rfl ?_)
    first
      | refine rw_gt 57 5 56 false rfl rfl rfl rfl rfl rfl (by first | rfl | assumption | (simp only [bs]; omega) | (simp [*]; done)) (do_load_box rfl rfl rfl ?_)
      | refine rw_gt 57 5 56 false rfl rfl rfl rfl rfl rfl (by first | rfl | assumption | (simp only [bs]; omega) | (simp [*]; done)) (do_load_arr rfl rfl (by omega) rfl ?_)
      | refine rw_gt 57 5 56 false rfl rfl rfl rfl rfl rfl (by first | rfl | assumption | (simp only [bs]; omega) | (simp [*]; done)) (n_load_boxagg [_, _, _, _] rfl rfl (Nat.le_of_ble_eq_true rfl) rfl ?_)
      | refine rw_gt 57 5 56 false rfl rfl rfl rfl rfl rfl (by first | rfl | assumption | (simp only [bs]; omega) | (simp [*]; done)) (n_load_arragg [_, _, _, _] rfl rfl rfl (by omega) rfl ?_)
    refine rw_gt 58 5 56 false rfl rfl rfl rfl rfl rfl (by first | rfl | assumption | (simp only [bs]; omega) | (simp [*]; done)) (do_fieldaddr rfl ?_)
    first
      | refine rw_gt 59 5 56 false rfl rfl rfl rfl rfl rfl (by first | rfl | assumption | (simp only [bs]; omega) | (simp [*]; done)) (do_load_box rfl rfl rfl ?_)
      | refine rw_gt 59 5 56 false rfl rfl rfl rfl rfl rfl (by first | rfl | assumption | (simp only [bs]; omega) | (simp [*]; done)) (do_load_arr rfl rfl (by omega) rfl ?_)
      | refine rw_gt 59 5 56 false rfl rfl rfl rfl rfl rfl (by first | rfl | assumption | (simp only [bs]; omega) | (simp [*]; done)) (n_load_boxagg [_] rfl rfl (Nat.le_of_ble_eq_true rfl) rfl ?_)
      | refine rw_gt 59 5 56 false rfl rfl rfl rfl rfl rfl (by first | rfl | assumption | (simp only [bs]; omega) | (simp [*]; done)) (n_load_arragg [_] rfl rfl rfl (by omega) rfl ?_)
    refine rw_gt 60 5 56 false rfl rfl rfl rfl rfl rfl (by first | rfl | assumption | (simp only [bs]; omega) | (simp [*]; done)) (do_callR rfl rfl (t_vertex n _ ⟨hc.2.2.1, hc.2.2.2.1⟩) [0] ⟨.inr ⟨_, rfl, srv⟩, trivial⟩ rfl rfl rfl ?_)
    refine rw_gt 61 5 56 false rfl rfl rfl rfl rfl rfl (by first | rfl | assumption | (simp only [bs]; omega) | (simp [*]; done)) (do_not rfl ?_)
    refine rw_t 62 rfl rfl rfl (do_pick_f rfl (by first | rfl | assumption | (simp only [bs]; omega) | (simp [*]; done)) rfl ?_)
    refine rw_nil ?_
    refine ⟨rfl, ⟨_, rfl, by first | (simp only [bs]; omega) | (simp; done) | (simp; omega) | (constructor <;> intro h <;> simp_all <;> omega)⟩, ?_⟩
    repeat (refine ⟨⟨_, rfl, rfl⟩, ?_⟩)
    exact trivial
  intro b3 hb3
  refine w_condP hb3 rfl (fun hc7 => ?_) (fun hc7 => ?_)
  · exact (hc7).elim
  refine w_skip ?_
  refine w_region ?_
  refine rw_t 63 rfl rfl rfl (do_move rfl ?_)
  refine rw_t 64 rfl rfl rfl (do_move rfl ?_)
  refine rw_gt 65 1 64 false rfl rfl rfl rfl rfl rfl (by first | rfl | assumption | (simp only [bs]; omega) | (simp [*]; done)) (do_fieldaddr rfl ?_)
  first
    | refine rw_gt 66 1 64 false rfl rfl rfl rfl rfl rfl (by first | rfl | assumption | (simp only [bs]; omega) | (simp [*]; done)) (do_load_box rfl rfl rfl ?_)
    | refine rw_gt 66 1 64 false rfl rfl rfl rfl rfl rfl (by first | rfl | assumption | (simp only [bs]; omega) | (simp [*]; done)) (do_load_arr rfl rfl (by omega) rfl ?_)
    | refine rw_gt 66 1 64 false rfl rfl rfl rfl rfl rfl (by first | rfl | assumption | (simp only [bs]; omega) | (simp [*]; done)) (n_load_boxagg [_] rfl rfl (Nat.le_of_ble_eq_true rfl) rfl ?_)
    | refine rw_gt 66 1 64 false rfl rfl rfl rfl rfl rfl (by first | rfl | assumption | (simp only [bs]; omega) | (simp [*]; done)) (n_load_arragg [_] rfl rfl rfl (by omega) rfl ?_)
  refine rw_gt 67 1 64 false rfl rfl rfl rfl rfl rfl (by first | rfl | assumption | (simp only [bs]; omega) | (simp [*]; done)) (do_bin rfl rfl rfl ?_)
  refine rw_t 68 rfl rfl rfl (do_pick_f rfl (by first | rfl | assumption | (simp only [bs]; omega) | (simp [*]; done)) rfl ?_)
  refine rw_t 3 rfl rfl rfl (do_assign rfl ?_)
  refine rw_nil ?_
  refine w_region ?_
  refine rw_t 44 rfl rfl rfl (do_move rfl ?_)
  refine rw_t 45 rfl rfl rfl (do_add rfl rfl (by omega) ?_)
  refine rw_t 4 rfl rfl rfl (do_assign rfl ?_)
  refine rw_nil ?_
  refine ⟨i + 1, [0, 1], by dsimp only; omega, by omega, ⟨shR rfl, shR rfl, trivial⟩, rfl, pre_ok rfl, ⟨⟨_, rfl, bool_congr (by simp only [decide_eq_false_iff_not]; omega)⟩, ⟨_, rfl, rfl⟩, ⟨_, rfl, rfl⟩, trivial⟩⟩
end Go.Proofs

set_option linter.unusedVariables false
namespace Go.Proofs
open Go Go.Sx Go.RowKit
theorem among_lo (x n : Int) : 0 ≤ Among x n := by
  unfold Among; split
  · omega
  · exact Int.emod_nonneg _ (by omega)
theorem among_hi (x : Int) {n : Int} (h : 1 ≤ n) : Among x n < n := by
  unfold Among; rw [if_neg (by omega)]; exact Int.emod_lt_of_pos _ (by omega)
def capOf (c : Int) : Int := (if c < 0 then -(c + 1) else c).tmod 1125899906842624
def fitArc (N : Int) (a : Arc) : Arc := ⟨Among a.frm N, Among a.to N, capOf a.cap⟩
def someN (n : Net) (va : Int) : Int := 2 + Among n.N (va - 1)
def someS (n : Net) (va : Int) : Int := Among n.S (someN n va)
def someT (n : Net) (va : Int) : Int := if someS n va = Among n.T (someN n va) then (someS n va + 1).tmod (someN n va) else Among n.T (someN n va)
def someNet (n : Net) (va ar : Int) : Net := ⟨someN n va, someS n va, someT n va, (n.arcs.take (min n.arcs.length ar.toNat)).map (fitArc (someN n va))⟩
/-- Numbers of int64. -/
def In64 (x : Int) : Prop := -9223372036854775808 ≤ x ∧ x < 9223372036854775808
theorem cut_all {α : Type} (l : List α) {n : Nat} (h : l.length = n) : cut l 0 n = l := by simp [cut, ← h]
theorem map_cut {α β : Type} (f : α → β) {l : List α} {i : Nat} (d : α) (h : i < l.length) : (l.take (i + 1)).map f = cut ((l.take i).map f) 0 i ++ cut [f (l.getD i d)] 0 1 := by
  rw [take_snoc d h, cut_all ((l.take i).map f) (by simp; omega), cut_all (n := 1) [f (l.getD i d)] rfl]; simp
set_option maxHeartbeats 8000000 in
theorem t_Some (n : Net) (va ar : Int) (hva : 2 ≤ va ∧ va ≤ 4096) (har : 0 ≤ ar ∧ ar ≤ 16384) (hcap : ∀ a ∈ n.arcs, In64 a.cap) (hlen : n.arcs.length ≤ 9223372036854775807) : Tri Try.prog 10 [n.sv 0, .val (.int .i64 va), .val (.int .i64 ar)] [SO.arcs false n.arcs] (fun s H => s = (someNet n va ar).sv 1 ∧ H = [SO.arcs false n.arcs, SO.arcs true (someNet n va ar).arcs]) := by
  refine tri_of_w (fn := Try.f10) Try.func10 rfl (by simp [Try.f10]) ?_
  intro ρ w hρ
  refine w_seq ?_
  have hN0 : 0 ≤ someN n va := by have := among_lo n.N (va - 1); unfold someN; omega
  have hN1 : 2 ≤ someN n va := by have := among_lo n.N (va - 1); unfold someN; omega
  have hN2 : someN n va ≤ 4096 := by have := among_hi n.N (n := va - 1) (by omega); unfold someN; omega
  have hS0 : 0 ≤ someS n va := among_lo _ _
  have hS1 : someS n va < someN n va := among_hi _ (by omega)
  refine w_region ?_
  refine rw_t 3 rfl rfl rfl (n_box_agg (n := 1) rfl  rfl ?_)
  refine rw_t 6 rfl rfl rfl (n_alloc (n := 2) rfl ?_)
  refine rw_nil ?_
  refine w_seq ?_
  refine w_region ?_
  refine rw_t 11 rfl rfl rfl (do_fieldaddr rfl ?_)
  first
    | refine rw_t 12 rfl rfl rfl (do_load_box rfl rfl rfl ?_)
    | refine rw_t 12 rfl rfl rfl (do_load_arr rfl rfl (by omega) rfl ?_)
    | refine rw_t 12 rfl rfl rfl (n_load_boxagg [_] rfl rfl (Nat.le_of_ble_eq_true rfl) rfl ?_)
    | refine rw_t 12 rfl rfl rfl (n_load_arragg [_] rfl rfl rfl (by omega) rfl ?_)
  refine rw_t 13 rfl rfl rfl (do_move rfl ?_)
  refine rw_t 14 rfl rfl rfl (do_sub rfl rfl (by omega) ?_)
  refine rw_t 15 rfl rfl rfl (do_callR (X' := .val (.int .i64 (Among n.N (va - 1)))) rfl rfl (t_Among n.N (va - 1) (by omega)) [] trivial rfl rfl rfl ?_)
  have hN3 : someN n va = 2 + Among n.N (va - 1) := rfl
  refine rw_t 16 rfl rfl rfl (do_add rfl rfl (by omega) ?_)
  refine rw_as (.val (.int .i64 (someN n va))) (rfl) ?_
  refine rw_t 17 rfl rfl rfl (do_build (out := [_, _, _, _]) rfl rfl ?_)
  refine rw_t 7 rfl rfl rfl (n_alloc (n := 3) rfl ?_)
  first
    | refine rw_u rfl rfl (n_store_box rfl rfl rfl (Nat.le_of_ble_eq_true rfl) rfl ?_)
    | refine rw_u rfl rfl (n_store_arr rfl rfl rfl (by omega) rfl (by decide) rfl ?_)
    | refine rw_u rfl rfl (n_store_whole rfl rfl rfl rfl rfl rfl ?_)
  refine rw_nil ?_
  refine w_seq ?_
  refine w_region ?_
  refine rw_t 18 rfl rfl rfl (do_fieldaddr rfl ?_)
  first
    | refine rw_t 19 rfl rfl rfl (do_load_box rfl rfl rfl ?_)
    | refine rw_t 19 rfl rfl rfl (do_load_arr rfl rfl (by omega) rfl ?_)
    | refine rw_t 19 rfl rfl rfl (n_load_boxagg [_] rfl rfl (Nat.le_of_ble_eq_true rfl) rfl ?_)
    | refine rw_t 19 rfl rfl rfl (n_load_arragg [_] rfl rfl rfl (by omega) rfl ?_)
  refine rw_t 20 rfl rfl rfl (do_fieldaddr rfl ?_)
  first
    | refine rw_t 21 rfl rfl rfl (do_load_box rfl rfl rfl ?_)
    | refine rw_t 21 rfl rfl rfl (do_load_arr rfl rfl (by omega) rfl ?_)
    | refine rw_t 21 rfl rfl rfl (n_load_boxagg [_] rfl rfl (Nat.le_of_ble_eq_true rfl) rfl ?_)
    | refine rw_t 21 rfl rfl rfl (n_load_arragg [_] rfl rfl rfl (by omega) rfl ?_)
  refine rw_t 22 rfl rfl rfl (do_callR (X' := .val (.int .i64 (Among n.S (someN n va)))) rfl rfl (t_Among n.S (someN n va) (by omega)) [] trivial rfl rfl rfl ?_)
  refine rw_as (.val (.int .i64 (someS n va))) (rfl) ?_
  refine rw_t 23 rfl rfl rfl (do_fieldaddr rfl ?_)
  first
    | refine rw_u rfl rfl (n_store_box rfl rfl rfl (Nat.le_of_ble_eq_true rfl) rfl ?_)
    | refine rw_u rfl rfl (n_store_arr rfl rfl rfl (by omega) rfl (by decide) rfl ?_)
    | refine rw_u rfl rfl (n_store_whole rfl rfl rfl rfl rfl rfl ?_)
  refine rw_nil ?_
  refine w_seq ?_
  refine w_region ?_
  refine rw_t 24 rfl rfl rfl (do_fieldaddr rfl ?_)
  first
    | refine rw_t 25 rfl rfl rfl (do_load_box rfl rfl rfl ?_)
    | refine rw_t 25 rfl rfl rfl (do_load_arr rfl rfl (by omega) rfl ?_)
    | refine rw_t 25 rfl rfl rfl (n_load_boxagg [_] rfl rfl (Nat.le_of_ble_eq_true rfl) rfl ?_)
    | refine rw_t 25 rfl rfl rfl (n_load_arragg [_] rfl rfl rfl (by omega) rfl ?_)
  refine rw_t 26 rfl rfl rfl (do_fieldaddr rfl ?_)
  first
    | refine rw_t 27 rfl rfl rfl (do_load_box rfl rfl rfl ?_)
    | refine rw_t 27 rfl rfl rfl (do_load_arr rfl rfl (by omega) rfl ?_)
    | refine rw_t 27 rfl rfl rfl (n_load_boxagg [_] rfl rfl (Nat.le_of_ble_eq_true rfl) rfl ?_)
    | refine rw_t 27 rfl rfl rfl (n_load_arragg [_] rfl rfl rfl (by omega) rfl ?_)
  refine rw_t 28 rfl rfl rfl (do_callR (X' := .val (.int .i64 (Among n.T (someN n va)))) rfl rfl (t_Among n.T (someN n va) (by omega)) [] trivial rfl rfl rfl ?_)
  refine rw_t 29 rfl rfl rfl (do_fieldaddr rfl ?_)
  first
    | refine rw_u rfl rfl (n_store_box rfl rfl rfl (Nat.le_of_ble_eq_true rfl) rfl ?_)
    | refine rw_u rfl rfl (n_store_arr rfl rfl rfl (by omega) rfl (by decide) rfl ?_)
    | refine rw_u rfl rfl (n_store_whole rfl rfl rfl rfl rfl rfl ?_)
  refine rw_nil ?_
  refine w_midS (ι := Int) (fun i => [(3, .ptr 1 0 0), (6, .ptr 2 0 0), (7, .ptr 3 0 0), (2, .val (.int .i64 (ar)))]) (fun i => [SO.arcs false n.arcs, .box [.val (.int .i64 n.N), .val (.int .i64 n.S), .val (.int .i64 n.T), .slc 0 0 n.arcs.length none], .box [.val (.int .i64 0), .val (.int .i64 0), .val (.int .i64 0), .val (.slice none 0 0)], .box [.val (.int .i64 (someN n va)), .val (.int .i64 (someS n va)), .val (.int .i64 (i)), .val (.slice none 0 0)]]) (fun i => i = someT n va) hρ ?_ ?_
  · refine w_seq ?_
    refine w_region ?_
    refine rw_t 30 rfl rfl rfl (do_fieldaddr rfl ?_)
    first
      | refine rw_t 31 rfl rfl rfl (do_load_box rfl rfl rfl ?_)
      | refine rw_t 31 rfl rfl rfl (do_load_arr rfl rfl (by omega) rfl ?_)
      | refine rw_t 31 rfl rfl rfl (n_load_boxagg [_] rfl rfl (Nat.le_of_ble_eq_true rfl) rfl ?_)
      | refine rw_t 31 rfl rfl rfl (n_load_arragg [_] rfl rfl rfl (by omega) rfl ?_)
    refine rw_t 32 rfl rfl rfl (do_fieldaddr rfl ?_)
    first
      | refine rw_t 33 rfl rfl rfl (do_load_box rfl rfl rfl ?_)
      | refine rw_t 33 rfl rfl rfl (do_load_arr rfl rfl (by omega) rfl ?_)
      | refine rw_t 33 rfl rfl rfl (n_load_boxagg [_] rfl rfl (Nat.le_of_ble_eq_true rfl) rfl ?_)
      | refine rw_t 33 rfl rfl rfl (n_load_arragg [_] rfl rfl rfl (by omega) rfl ?_)
    refine rw_t 34 rfl rfl rfl (do_bin rfl rfl rfl ?_)
    refine rw_nil ?_
    refine w_cond rfl (fun hc1 => ?_) (fun hc1 => ?_)
    all_goals simp only [bs] at hc1
    · -- region 5
      refine w_region ?_
      refine rw_t 35 rfl rfl rfl (do_fieldaddr rfl ?_)
      first
        | refine rw_t 36 rfl rfl rfl (do_load_box rfl rfl rfl ?_)
        | refine rw_t 36 rfl rfl rfl (do_load_arr rfl rfl (by omega) rfl ?_)
        | refine rw_t 36 rfl rfl rfl (n_load_boxagg [_] rfl rfl (Nat.le_of_ble_eq_true rfl) rfl ?_)
        | refine rw_t 36 rfl rfl rfl (n_load_arragg [_] rfl rfl rfl (by omega) rfl ?_)
      have hS2 : someS n va = Among n.S (someN n va) := rfl
      refine rw_t 37 rfl rfl rfl (do_add rfl rfl (by omega) ?_)
      refine rw_t 38 rfl rfl rfl (do_fieldaddr rfl ?_)
      first
        | refine rw_t 39 rfl rfl rfl (do_load_box rfl rfl rfl ?_)
        | refine rw_t 39 rfl rfl rfl (do_load_arr rfl rfl (by omega) rfl ?_)
        | refine rw_t 39 rfl rfl rfl (n_load_boxagg [_] rfl rfl (Nat.le_of_ble_eq_true rfl) rfl ?_)
        | refine rw_t 39 rfl rfl rfl (n_load_arragg [_] rfl rfl rfl (by omega) rfl ?_)
      refine rw_t 40 rfl rfl rfl (do_rem rfl rfl (by omega) ?_)
      refine rw_t 41 rfl rfl rfl (do_fieldaddr rfl ?_)
      first
        | refine rw_u rfl rfl (n_store_box rfl rfl rfl (Nat.le_of_ble_eq_true rfl) rfl ?_)
        | refine rw_u rfl rfl (n_store_arr rfl rfl rfl (by omega) rfl (by decide) rfl ?_)
        | refine rw_u rfl rfl (n_store_whole rfl rfl rfl rfl rfl rfl ?_)
      refine rw_nil ?_
      exact ⟨_, [0, 1, 2, 3], by dsimp only; unfold someT; rw [if_pos hc1], ⟨shR rfl, shR rfl, shR rfl, shR rfl, trivial⟩, rfl, pre_ok rfl, ⟨⟨_, rfl, rfl⟩, ⟨_, rfl, rfl⟩, ⟨_, rfl, rfl⟩, ⟨_, rfl, rfl⟩, trivial⟩⟩
    · refine w_skip ?_
      exact ⟨_, [0, 1, 2, 3], by dsimp only; unfold someT; rw [if_neg hc1], ⟨shR rfl, shR rfl, shR rfl, shR rfl, trivial⟩, rfl, pre_ok rfl, ⟨⟨_, rfl, rfl⟩, ⟨_, rfl, rfl⟩, ⟨_, rfl, rfl⟩, ⟨_, rfl, rfl⟩, trivial⟩⟩
  rintro _ rfl
  refine w_seq ?_
  refine w_seq ?_
  refine w_region ?_
  refine rw_t 42 rfl rfl rfl (do_fieldaddr rfl ?_)
  first
    | refine rw_t 43 rfl rfl rfl (do_load_box rfl rfl rfl ?_)
    | refine rw_t 43 rfl rfl rfl (do_load_arr rfl rfl (by omega) rfl ?_)
    | refine rw_t 43 rfl rfl rfl (n_load_boxagg [_] rfl rfl (Nat.le_of_ble_eq_true rfl) rfl ?_)
    | refine rw_t 43 rfl rfl rfl (n_load_arragg [_] rfl rfl rfl (by omega) rfl ?_)
  refine rw_t 44 rfl rfl rfl (do_fieldaddr rfl ?_)
  first
    | refine rw_t 45 rfl rfl rfl (do_load_box rfl rfl rfl ?_)
    | refine rw_t 45 rfl rfl rfl (do_load_arr rfl rfl (by omega) rfl ?_)
    | refine rw_t 45 rfl rfl rfl (n_load_boxagg [_] rfl rfl (Nat.le_of_ble_eq_true rfl) rfl ?_)
    | refine rw_t 45 rfl rfl rfl (n_load_arragg [_] rfl rfl rfl (by omega) rfl ?_)
  refine rw_t 46 rfl rfl rfl (do_len rfl ?_)
  refine rw_t 47 rfl rfl rfl (do_move rfl ?_)
  refine rw_t 48 rfl rfl rfl (do_min rfl rfl ?_)
  refine rw_as (.val (.int .i64 (((min n.arcs.length ar.toNat) : Nat)))) (val_congr (by split <;> omega)) ?_
  refine rw_t 49 rfl rfl rfl (do_slice (l := 0) rfl rfl rfl rfl rfl (by omega) (by omega) (by omega) ?_)
  refine rw_as (.slc 0 0 (min n.arcs.length ar.toNat) none) (by simp) ?_
  refine rw_t 50 rfl rfl rfl (do_len rfl ?_)
  refine rw_t 51 rfl rfl rfl (do_move rfl ?_)
  refine rw_nil ?_
  refine w_block ?_ -- block 0
  refine n_ghost Arc 3 encArc Arc.none (fun _ => rfl) (fun _ _ h => by simp [encArc] at h; rcases h with rfl | rfl | rfl <;> rfl) ?_
  refine n_nilB 3 3 4 0 rfl rfl ?_
  refine w_loopS (ι := Nat) (fun i => [(3, .ptr 1 0 0), (6, .ptr 2 0 0), (7, .ptr 3 0 0), (49, .slc 0 0 (min n.arcs.length ar.toNat) none), (50, .val (.int .i64 (((min n.arcs.length ar.toNat) : Nat)))), (51, .val (.int .i64 ((i : Nat))))]) (fun i => [SO.arcs false n.arcs, .box [.val (.int .i64 n.N), .val (.int .i64 n.S), .val (.int .i64 n.T), .slc 0 0 n.arcs.length none], .box [.val (.int .i64 0), .val (.int .i64 0), .val (.int .i64 0), .val (.slice none 0 0)], .box [.val (.int .i64 (someN n va)), .val (.int .i64 (someS n va)), .val (.int .i64 (someT n va)), .slc 4 0 i none], SO.arcs true ((n.arcs.take i).map (fitArc (someN n va)))]) (fun i => (min n.arcs.length ar.toNat) - i) (fun i => i ≤ (min n.arcs.length ar.toNat)) (0) [0, 1, 2, 3, 4] (by simp) ⟨shR rfl, shR rfl, shR rfl, shR rfl, shR rfl, trivial⟩ rfl (pre_ok rfl) hρ ⟨⟨_, rfl, rfl⟩, ⟨_, rfl, rfl⟩, ⟨_, rfl, rfl⟩, ⟨_, rfl, rfl⟩, ⟨_, rfl, rfl⟩, ⟨_, rfl, rfl⟩, trivial⟩ ?_
  intro i hi
  refine w_seq ?_
  refine w_region ?_
  refine rw_t 52 rfl rfl rfl (do_bin rfl rfl rfl ?_)
  refine rw_nil ?_
  refine w_seq ?_
  refine w_cond rfl (fun hc2 => ?_) (fun hc2 => ?_)
  all_goals simp only [bs] at hc2
  rotate_left
  · refine w_exit ?_
    refine w_seq ?_
    refine w_region ?_
    first
      | refine rw_t 81 rfl rfl rfl (do_load_box rfl rfl rfl ?_)
      | refine rw_t 81 rfl rfl rfl (do_load_arr rfl rfl (by omega) rfl ?_)
      | refine rw_t 81 rfl rfl rfl (n_load_boxagg [_, _, _, _] rfl rfl (Nat.le_of_ble_eq_true rfl) rfl ?_)
      | refine rw_t 81 rfl rfl rfl (n_load_arragg [_, _, _, _] rfl rfl rfl (by omega) rfl ?_)
    first
      | refine rw_u rfl rfl (n_store_box rfl rfl rfl (Nat.le_of_ble_eq_true rfl) rfl ?_)
      | refine rw_u rfl rfl (n_store_arr rfl rfl rfl (by omega) rfl (by decide) rfl ?_)
      | refine rw_u rfl rfl (n_store_whole rfl rfl rfl rfl rfl rfl ?_)
    refine rw_nil ?_
    refine w_ret ?_
    have hi' : i = (min n.arcs.length ar.toNat) := by omega
    subst hi'
    have hL : (someNet n va ar).arcs.length = (min n.arcs.length ar.toNat) := by simp [someNet]
    exact ret_eq (.inl rfl) (.cons (res_agg rfl rfl (Nat.le_of_ble_eq_true rfl)) .nil) [0, 4] (by show SV.agg [.val (.int .i64 (someN n va)), .val (.int .i64 (someS n va)), .val (.int .i64 (someT n va)), .slc 4 0 (min n.arcs.length ar.toNat) none] = SV.agg [.val (.int .i64 (someN n va)), .val (.int .i64 (someS n va)), .val (.int .i64 (someT n va)), .slc 4 0 (someNet n va ar).arcs.length none]; rw [hL]) ⟨shR rfl, shR rfl, trivial⟩ rfl (pre_ok rfl)
  refine w_skip ?_
  refine w_seq ?_
  refine w_block ?_ -- block 1
  refine w_seq ?_
  refine w_region ?_
  refine rw_t 53 rfl rfl rfl (do_ixn rfl rfl rfl (by omega) ?_)
  first
    | refine rw_t 54 rfl rfl rfl (do_load_box rfl rfl rfl ?_)
    | refine rw_t 54 rfl rfl rfl (do_load_arr rfl rfl (by omega) rfl ?_)
    | refine rw_t 54 rfl rfl rfl (n_load_boxagg [_, _, _] rfl rfl (Nat.le_of_ble_eq_true rfl) rfl ?_)
    | refine rw_t 54 rfl rfl rfl (n_load_arragg [_, _, _] rfl rfl rfl (by omega) rfl ?_)
  refine rw_t 9 rfl rfl rfl (n_alloc (n := 5) rfl ?_)
  first
    | refine rw_u rfl rfl (n_store_box rfl rfl rfl (Nat.le_of_ble_eq_true rfl) rfl ?_)
    | refine rw_u rfl rfl (n_store_arr rfl rfl rfl (by omega) rfl (by decide) rfl ?_)
    | refine rw_u rfl rfl (n_store_whole rfl rfl rfl rfl rfl rfl ?_)
  refine rw_nil ?_
  refine w_seq ?_
  have hcap' : In64 (n.arcs.getD i Arc.none).cap := hcap _ (getD_mem _ (by omega))
  unfold In64 at hcap'
  refine w_region ?_
  refine rw_t 55 rfl rfl rfl (do_fieldaddr rfl ?_)
  first
    | refine rw_t 56 rfl rfl rfl (do_load_box rfl rfl rfl ?_)
    | refine rw_t 56 rfl rfl rfl (do_load_arr rfl rfl (by omega) rfl ?_)
    | refine rw_t 56 rfl rfl rfl (n_load_boxagg [_] rfl rfl (Nat.le_of_ble_eq_true rfl) rfl ?_)
    | refine rw_t 56 rfl rfl rfl (n_load_arragg [_] rfl rfl rfl (by omega) rfl ?_)
  refine rw_t 10 rfl rfl rfl (do_assign rfl ?_)
  refine rw_nil ?_
  refine w_midS (ι := Int) (fun z => [(10, .val (.int .i64 (z))), (9, .ptr 5 0 0), (3, .ptr 1 0 0), (6, .ptr 2 0 0), (7, .ptr 3 0 0), (49, .slc 0 0 (min n.arcs.length ar.toNat) none), (50, .val (.int .i64 (((min n.arcs.length ar.toNat) : Nat)))), (51, .val (.int .i64 ((i : Nat))))]) (fun z => [SO.arcs false n.arcs, .box [.val (.int .i64 n.N), .val (.int .i64 n.S), .val (.int .i64 n.T), .slc 0 0 n.arcs.length none], .box [.val (.int .i64 0), .val (.int .i64 0), .val (.int .i64 0), .val (.slice none 0 0)], .box [.val (.int .i64 (someN n va)), .val (.int .i64 (someS n va)), .val (.int .i64 (someT n va)), .slc 4 0 i none], SO.arcs true ((n.arcs.take i).map (fitArc (someN n va))), .box ((encArc (n.arcs.getD i Arc.none)).map .val)]) (fun z => z = if (n.arcs.getD i Arc.none).cap < 0 then -((n.arcs.getD i Arc.none).cap + 1) else (n.arcs.getD i Arc.none).cap) hρ ?_ ?_
  · refine w_seq ?_
    refine w_region ?_
    refine rw_t 57 rfl rfl rfl (do_move rfl ?_)
    refine rw_as (.val (.int .i64 ((n.arcs.getD i Arc.none).cap))) (rfl) ?_
    refine rw_t 58 rfl rfl rfl (do_bin rfl rfl rfl ?_)
    refine rw_nil ?_
    refine w_cond rfl (fun hc3 => ?_) (fun hc3 => ?_)
    all_goals simp only [bs] at hc3
    · -- region 11
      refine w_region ?_
      refine rw_t 59 rfl rfl rfl (do_move rfl ?_)
      refine rw_t 60 rfl rfl rfl (do_add rfl rfl (by omega) ?_)
      refine rw_t 61 rfl rfl rfl (do_neg64 rfl (by omega) ?_)
      refine rw_t 10 rfl rfl rfl (do_assign rfl ?_)
      refine rw_nil ?_
      exact ⟨_, [0, 1, 2, 3, 4, 5], (if_pos hc3).symm, ⟨shR rfl, shR rfl, shR rfl, shR rfl, shR rfl, shR rfl, trivial⟩, rfl, pre_ok rfl, ⟨⟨_, rfl, rfl⟩, ⟨_, rfl, rfl⟩, ⟨_, rfl, rfl⟩, ⟨_, rfl, rfl⟩, ⟨_, rfl, rfl⟩, ⟨_, rfl, rfl⟩, ⟨_, rfl, rfl⟩, ⟨_, rfl, rfl⟩, trivial⟩⟩
    · refine w_skip ?_
      exact ⟨_, [0, 1, 2, 3, 4, 5], (if_neg hc3).symm, ⟨shR rfl, shR rfl, shR rfl, shR rfl, shR rfl, shR rfl, trivial⟩, rfl, pre_ok rfl, ⟨⟨_, rfl, rfl⟩, ⟨_, rfl, rfl⟩, ⟨_, rfl, rfl⟩, ⟨_, rfl, rfl⟩, ⟨_, rfl, rfl⟩, ⟨_, rfl, rfl⟩, ⟨_, rfl, rfl⟩, ⟨_, rfl, rfl⟩, trivial⟩⟩
  rintro _ rfl
  refine w_draw mixed [0, 1, 0, 4, 0, 16, 60, 0, 128, 0, 512, 2044, 0, 4096, 16380, 32764] [65535, 131071, 262143] (by kernel_rfl) (by kernel_rfl) rfl rfl rfl (hle hρ rfl) ?_
  refine ra_q (j := 0) rfl rfl rfl rfl (do_fieldaddr rfl ⟨rfl, rfl⟩) (by rfl) ?_
  first
    | refine ra_q (j := 1) rfl rfl rfl rfl (do_load_box rfl rfl rfl ⟨rfl, rfl⟩) (by rfl) ?_
    | refine ra_q (j := 1) rfl rfl rfl rfl (do_load_arr rfl rfl (by omega) rfl ⟨rfl, rfl⟩) (by rfl) ?_
    | refine ra_q (j := 1) rfl rfl rfl rfl (n_load_boxagg [_] rfl rfl (Nat.le_of_ble_eq_true rfl) rfl ⟨rfl, rfl⟩) (by rfl) ?_
    | refine ra_q (j := 1) rfl rfl rfl rfl (n_load_arragg [_] rfl rfl rfl (by omega) rfl ⟨rfl, rfl⟩) (by rfl) ?_
  refine ra_q (j := 2) rfl rfl rfl rfl (do_fieldaddr rfl ⟨rfl, rfl⟩) (by rfl) ?_
  first
    | refine ra_q (j := 3) rfl rfl rfl rfl (do_load_box rfl rfl rfl ⟨rfl, rfl⟩) (by rfl) ?_
    | refine ra_q (j := 3) rfl rfl rfl rfl (do_load_arr rfl rfl (by omega) rfl ⟨rfl, rfl⟩) (by rfl) ?_
    | refine ra_q (j := 3) rfl rfl rfl rfl (n_load_boxagg [_] rfl rfl (Nat.le_of_ble_eq_true rfl) rfl ⟨rfl, rfl⟩) (by rfl) ?_
    | refine ra_q (j := 3) rfl rfl rfl rfl (n_load_arragg [_] rfl rfl rfl (by omega) rfl ⟨rfl, rfl⟩) (by rfl) ?_
  refine ra_q (j := 4) rfl rfl rfl rfl (do_fieldaddr rfl ⟨rfl, rfl⟩) (by rfl) ?_
  first
    | refine ra_q (j := 5) rfl rfl rfl rfl (do_load_box rfl rfl rfl ⟨rfl, rfl⟩) (by rfl) ?_
    | refine ra_q (j := 5) rfl rfl rfl rfl (do_load_arr rfl rfl (by omega) rfl ⟨rfl, rfl⟩) (by rfl) ?_
    | refine ra_q (j := 5) rfl rfl rfl rfl (n_load_boxagg [_] rfl rfl (Nat.le_of_ble_eq_true rfl) rfl ⟨rfl, rfl⟩) (by rfl) ?_
    | refine ra_q (j := 5) rfl rfl rfl rfl (n_load_arragg [_] rfl rfl rfl (by omega) rfl ⟨rfl, rfl⟩) (by rfl) ?_
  refine ra_q (j := 6) rfl rfl rfl rfl (do_callR (X' := .val (.int .i64 (Among (n.arcs.getD i Arc.none).frm (someN n va)))) rfl rfl (t_Among (n.arcs.getD i Arc.none).frm (someN n va) (by omega)) [] trivial rfl rfl rfl ⟨rfl, rfl⟩) (by rfl) ?_
  refine ra_q (j := 7) rfl rfl rfl rfl (do_fieldaddr rfl ⟨rfl, rfl⟩) (by rfl) ?_
  first
    | refine ra_q (j := 8) rfl rfl rfl rfl (do_load_box rfl rfl rfl ⟨rfl, rfl⟩) (by rfl) ?_
    | refine ra_q (j := 8) rfl rfl rfl rfl (do_load_arr rfl rfl (by omega) rfl ⟨rfl, rfl⟩) (by rfl) ?_
    | refine ra_q (j := 8) rfl rfl rfl rfl (n_load_boxagg [_] rfl rfl (Nat.le_of_ble_eq_true rfl) rfl ⟨rfl, rfl⟩) (by rfl) ?_
    | refine ra_q (j := 8) rfl rfl rfl rfl (n_load_arragg [_] rfl rfl rfl (by omega) rfl ⟨rfl, rfl⟩) (by rfl) ?_
  refine ra_q (j := 9) rfl rfl rfl rfl (do_fieldaddr rfl ⟨rfl, rfl⟩) (by rfl) ?_
  first
    | refine ra_q (j := 10) rfl rfl rfl rfl (do_load_box rfl rfl rfl ⟨rfl, rfl⟩) (by rfl) ?_
    | refine ra_q (j := 10) rfl rfl rfl rfl (do_load_arr rfl rfl (by omega) rfl ⟨rfl, rfl⟩) (by rfl) ?_
    | refine ra_q (j := 10) rfl rfl rfl rfl (n_load_boxagg [_] rfl rfl (Nat.le_of_ble_eq_true rfl) rfl ⟨rfl, rfl⟩) (by rfl) ?_
    | refine ra_q (j := 10) rfl rfl rfl rfl (n_load_arragg [_] rfl rfl rfl (by omega) rfl ⟨rfl, rfl⟩) (by rfl) ?_
  refine ra_q (j := 11) rfl rfl rfl rfl (do_callR (X' := .val (.int .i64 (Among (n.arcs.getD i Arc.none).to (someN n va)))) rfl rfl (t_Among (n.arcs.getD i Arc.none).to (someN n va) (by omega)) [] trivial rfl rfl rfl ⟨rfl, rfl⟩) (by rfl) ?_
  refine ra_q (j := 12) rfl rfl rfl rfl (do_move rfl ⟨rfl, rfl⟩) (by rfl) ?_
  refine ra_q (j := 13) rfl rfl rfl rfl (do_rem rfl rfl (by omega) ⟨rfl, rfl⟩) (by rfl) ?_
  refine ra_q (j := 14) rfl rfl rfl rfl (do_build (out := [_, _, _]) rfl rfl ⟨rfl, rfl⟩) (by rfl) ?_
  refine ra_n (j := 15) rfl rfl rfl rfl (g_bs (nm := 6) Arc encArc Arc.none [fitArc (someN n va) (n.arcs.getD i Arc.none)] rfl rfl rfl rfl rfl (fun _ => rfl) (fun _ _ h => by simp [encArc] at h; rcases h with rfl | rfl | rfl <;> rfl) rfl ⟨rfl, rfl⟩) (by rfl) (by rfl) (by rfl) ?_
  refine n_done ?_
  refine rw_t 78 rfl rfl rfl (n_append_own (nm := 7) rfl rfl rfl rfl rfl (by simp only [List.length_map, List.length_take]; omega) (by simp) (by omega) (by omega) rfl ?_)
  refine rw_t 79 rfl rfl rfl (do_fieldaddr rfl ?_)
  first
    | refine rw_u rfl rfl (n_store_box rfl rfl rfl (Nat.le_of_ble_eq_true rfl) rfl ?_)
    | refine rw_u rfl rfl (n_store_arr rfl rfl rfl (by omega) rfl (by decide) rfl ?_)
    | refine rw_u rfl rfl (n_store_whole rfl rfl rfl rfl rfl rfl ?_)
  refine rw_nil ?_
  refine w_region ?_
  refine rw_t 80 rfl rfl rfl (do_add rfl rfl (by omega) ?_)
  refine rw_t 51 rfl rfl rfl (do_move rfl ?_)
  refine rw_nil ?_
  refine ⟨i + 1, [0, 1, 2, 3, 7], by dsimp only; omega, by omega, ⟨shR rfl, shR rfl, shR rfl, shR rfl, .inr ⟨_, rfl, .inl (congrArg (SO.arcs true) (map_cut (fitArc (someN n va)) Arc.none (by omega)))⟩, trivial⟩, rfl, pre_ok rfl, ⟨⟨_, rfl, rfl⟩, ⟨_, rfl, rfl⟩, ⟨_, rfl, rfl⟩, ⟨_, rfl, rfl⟩, ⟨_, rfl, rfl⟩, ⟨_, rfl, rfl⟩, trivial⟩⟩
end Go.Proofs

set_option linter.unusedVariables false
namespace Go.Proofs
open Go Go.Sx Go.RowKit
/-- A residual arc. -/
structure Row where
  hd : Int
  cap : Int
  arc : Int
  back : Bool
abbrev Row.none : Row := ⟨0, 0, 0, false⟩
def rowOf (v : Int) (a : Arc) (k : Nat) : List Row := if a.frm = a.to then [] else (if a.frm = v then [⟨a.to, a.cap, k, false⟩] else []) ++ (if a.to = v then [⟨a.frm, 0, k, true⟩] else [])
def rowsAt (n : Net) (v : Int) (k : Nat) : List Row := (List.range k).flatMap fun j => rowOf v (n.arcs.getD j Arc.none) j
def rowsOf (n : Net) (v : Nat) : List Row := (List.range v).flatMap fun (u : Nat) => rowsAt n (u : Int) n.arcs.length
def firstOf (n : Net) (v : Nat) : List Int := (List.range v).map fun (u : Nat) => ((rowsOf n u).length : Int)
def revAt (A : List Row) (i m : Nat) : List Int := ((List.range m).filter fun (j : Nat) => decide ((A.getD i Row.none).arc = (A.getD j Row.none).arc ∧ i ≠ j)).map fun (j : Nat) => (j : Int)
def revOf (A : List Row) (i : Nat) : List Int := (List.range i).flatMap fun i => revAt A i A.length
structure Csr where
  N : Int
  S : Int
  T : Int
  First : List Int
  Head : List Int
  Rev : List Int
  Cap : List Int
  Arc : List Int
  Back : List Bool
abbrev Csr.sv (c : Csr) (o : Nat) : SV := .agg [.val (.int .i64 c.N), .val (.int .i64 c.S), .val (.int .i64 c.T), .slc o 0 c.First.length none, .slc (o + 1) 0 c.Head.length none, .slc (o + 2) 0 c.Rev.length none, .slc (o + 3) 0 c.Cap.length none, .slc (o + 4) 0 c.Arc.length none, .slc (o + 5) 0 c.Back.length none]
abbrev Csr.os (own : Bool) (c : Csr) : List SO := [.ints own .i64 c.First, .ints own .i64 c.Head, .ints own .i64 c.Rev, .ints own .i64 c.Cap, .ints own .i64 c.Arc, .bools own c.Back]
def rows (n : Net) : List Row := rowsOf n n.N.toNat
def makeC (n : Net) : Csr := ⟨n.N, n.S, n.T, firstOf n n.N.toNat ++ [((rows n).length : Int)], (rows n).map Row.hd, revOf (rows n) (rows n).length, (rows n).map Row.cap, (rows n).map Row.arc, (rows n).map Row.back⟩
theorem map_app {α β : Type} (f : α → β) {l : List α} {n : Nat} (r : α) (h : n = l.length) : (l ++ [r]).map f = cut (l.map f) 0 n ++ cut [f r] 0 1 := by
  rw [cut_all (l.map f) (by simp [h]), cut_all (n := 1) [f r] rfl]; simp
theorem list_app {l : List Int} {n : Nat} (r : Int) (h : n = l.length) : l ++ [r] = cut l 0 n ++ cut [r] 0 1 := by
  rw [cut_all l h.symm, cut_all (n := 1) [r] rfl]
theorem rowsAt_next (n : Net) (v : Int) (k : Nat) : rowsAt n v (k + 1) = rowsAt n v k ++ rowOf v (n.arcs.getD k Arc.none) k := by simp [rowsAt, List.range_succ]
theorem rowsOf_next (n : Net) (v : Nat) : rowsOf n (v + 1) = rowsOf n v ++ rowsAt n v n.arcs.length := by simp [rowsOf, List.range_succ]
theorem firstOf_next (n : Net) (v : Nat) : firstOf n (v + 1) = firstOf n v ++ [((rowsOf n v).length : Int)] := by simp [firstOf, List.range_succ]
theorem firstOf_len (n : Net) (v : Nat) : (firstOf n v).length = v := by simp [firstOf]
theorem rowOf_len (v : Int) (a : Arc) (k : Nat) : (rowOf v a k).length ≤ 2 := by
  unfold rowOf
  split
  · simp
  · split <;> split <;> simp
theorem rowsAt_len (n : Net) (v : Int) (k : Nat) : (rowsAt n v k).length ≤ 2 * k := by
  induction k with
  | zero => simp [rowsAt]
  | succ k ih => rw [rowsAt_next, List.length_append]; have := rowOf_len v (n.arcs.getD k Arc.none) k; omega
theorem rowsOf_len (n : Net) (v : Nat) : (rowsOf n v).length ≤ v * (2 * n.arcs.length) := by
  induction v with
  | zero => simp [rowsOf]
  | succ v ih => rw [rowsOf_next, List.length_append]; have := rowsAt_len n v n.arcs.length; rw [Nat.add_mul]; omega
theorem revAt_next (A : List Row) (i m : Nat) : revAt A i (m + 1) = revAt A i m ++ (if (A.getD i Row.none).arc = (A.getD m Row.none).arc ∧ i ≠ m then [(m : Int)] else []) := by
  unfold revAt
  rw [List.range_succ, List.filter_append, List.map_append]
  congr 1
  by_cases h : (A.getD i Row.none).arc = (A.getD m Row.none).arc ∧ i ≠ m
  · rw [if_pos h]; simp only [List.filter_cons, decide_eq_true h]; rfl
  · rw [if_neg h]; simp only [List.filter_cons, decide_eq_false h]; rfl
theorem getD_arc (l : List Row) (i : Nat) : (l.map Row.arc).getD i 0 = (l.getD i Row.none).arc := by
  simp only [List.getD, List.getElem?_map]
  cases l[i]? <;> rfl
theorem len_snoc {α : Type} (l : List α) (x : α) : (l ++ [x]).length = l.length + 1 := by simp
theorem revOf_next (A : List Row) (i : Nat) : revOf A (i + 1) = revOf A i ++ revAt A i A.length := by simp [revOf, List.range_succ]
theorem revAt_len (A : List Row) (i m : Nat) : (revAt A i m).length ≤ m := by
  unfold revAt
  rw [List.length_map]
  exact Nat.le_trans (List.length_filter_le _ _) (by simp)
theorem revOf_len (A : List Row) (i : Nat) : (revOf A i).length ≤ i * A.length := by
  induction i with
  | zero => simp [revOf]
  | succ i ih => rw [revOf_next, List.length_append]; have := revAt_len A i A.length; rw [Nat.add_mul]; omega
end Go.Proofs
