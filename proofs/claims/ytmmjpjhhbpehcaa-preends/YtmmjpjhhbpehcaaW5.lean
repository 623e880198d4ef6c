/- If nobody is active what is left is of a flow, T is not reached from S, and no flow is worth more. Part 5. -/
import Derived.Test.YtmmjpjhhbpehcaaW4
set_option linter.unusedVariables false
set_option linter.unusedSimpArgs false
set_option linter.unusedVariables false
set_option linter.unusedSimpArgs false
namespace Go.Proofs
open Go Go.Sx Go.RowKit
/-- A list by its entries. -/
def tab {α : Type} (m : Nat) (f : Nat → α) : List α := (List.range m).map f
theorem tab_len {α : Type} (m : Nat) (f : Nat → α) : (tab m f).length = m := by simp [tab]
theorem tab_get {α : Type} {m i : Nat} (f : Nat → α) (d : α) (h : i < m) : (tab m f).getD i d = f i := by simp [tab, List.getD, h]
theorem tab_congr {α : Type} {m : Nat} {f g : Nat → α} (h : ∀ i, i < m → f i = g i) : tab m f = tab m g := by
  unfold tab; exact List.map_congr_left fun i hi => h i (List.mem_range.1 hi)
theorem tab_set {α : Type} {m i : Nat} (f : Nat → α) (x : α) : (tab m f).set i x = tab m (fun j => if j = i then x else f j) := by
  refine List.ext_getElem (by simp [tab]) fun j h1 h2 => ?_
  simp only [tab, List.getElem_set, List.getElem_map, List.getElem_range]
  by_cases h : i = j
  · rw [if_pos h, if_pos h.symm]
  · rw [if_neg h, if_neg (Ne.symm h)]
theorem tab_const {α : Type} (m : Nat) (x : α) : List.replicate m x = tab m (fun _ => x) := by
  refine List.ext_getElem (by simp [tab]) fun j h1 h2 => ?_
  simp [tab]
theorem tab_of {α : Type} (l : List α) (d : α) : l = tab l.length (fun i => l.getD i d) := by
  refine List.ext_getElem (by simp [tab]) fun j h1 h2 => ?_
  simp [tab, List.getD, h1]
theorem tab_ext {α : Type} {l : List α} {m : Nat} {f : Nat → α} (d : α) (hl : l.length = m) (h : ∀ i, i < m → l.getD i d = f i) : l = tab m f := by
  rw [tab_of l d, hl]; exact tab_congr h

/-- How many residual arcs a vertex has of the first arcs. -/
def cntJ (n : Net) (k j : Nat) : Int := ((rowsAt n ((j : Int) - 1) k).length : Int)
def cntL (n : Net) (k : Nat) : List Int := tab (n.N.toNat + 1) (cntJ n k)
def preJ (n : Net) (v j : Nat) : Int := if j ≤ v then ((rowsOf n j).length : Int) else cntJ n n.arcs.length j
def preL (n : Net) (v : Nat) : List Int := tab (n.N.toNat + 1) (preJ n v)
theorem rowOf_count (v : Int) (a : Arc) (k : Nat) : ((rowOf v a k).length : Int) = if a.frm = a.to then 0 else (if a.frm = v then 1 else 0) + (if a.to = v then 1 else 0) := by
  unfold rowOf
  by_cases h : a.frm = a.to
  · rw [if_pos h, if_pos h]; rfl
  · rw [if_neg h, if_neg h]
    by_cases h1 : a.frm = v <;> by_cases h2 : a.to = v <;> simp [h1, h2]
theorem cntJ_next (n : Net) (k j : Nat) : cntJ n (k + 1) j = cntJ n k j + ((rowOf ((j : Int) - 1) (n.arcs.getD k Arc.none) k).length : Int) := by
  unfold cntJ; rw [rowsAt_next, List.length_append]; omega
theorem cntL_len (n : Net) (k : Nat) : (cntL n k).length = n.N.toNat + 1 := tab_len _ _
theorem preL_len (n : Net) (k : Nat) : (preL n k).length = n.N.toNat + 1 := tab_len _ _
theorem cntL_zero (n : Net) : cntL n 0 = List.replicate (n.N.toNat + 1) 0 := by
  rw [tab_const]; exact tab_congr fun i _ => by simp [cntJ, rowsAt]
theorem cntL_same {n : Net} {k : Nat} (h : (n.arcs.getD k Arc.none).frm = (n.arcs.getD k Arc.none).to) : cntL n (k + 1) = cntL n k :=
  tab_congr fun i _ => by rw [cntJ_next, rowOf_count, if_pos h]; omega
theorem cntL_step {n : Net} (hn : NetOK n) {k : Nat} (hk : k < n.arcs.length) (h : (n.arcs.getD k Arc.none).frm ≠ (n.arcs.getD k Arc.none).to) :
    cntL n (k + 1) = ((cntL n k).set ((n.arcs.getD k Arc.none).frm + 1).toNat ((cntL n k).getD ((n.arcs.getD k Arc.none).frm + 1).toNat 0 + 1)).set ((n.arcs.getD k Arc.none).to + 1).toNat
      (((cntL n k).set ((n.arcs.getD k Arc.none).frm + 1).toNat ((cntL n k).getD ((n.arcs.getD k Arc.none).frm + 1).toNat 0 + 1)).getD ((n.arcs.getD k Arc.none).to + 1).toNat 0 + 1) := by
  have ha := hn.arc hk
  have hlo := hn.lo
  unfold cntL
  rw [tab_get _ _ (by omega), tab_set, tab_get _ _ (by omega), tab_set]
  refine tab_congr fun j hj => ?_
  try dsimp only
  rw [cntJ_next, rowOf_count, if_neg h]
  by_cases h1 : j = ((n.arcs.getD k Arc.none).to + 1).toNat
  · have h2 : ¬ j = ((n.arcs.getD k Arc.none).frm + 1).toNat := by omega
    rw [if_pos h1, if_neg (show ¬ ((n.arcs.getD k Arc.none).to + 1).toNat = ((n.arcs.getD k Arc.none).frm + 1).toNat by omega), if_neg (show ¬ (n.arcs.getD k Arc.none).frm = (j : Int) - 1 by omega), if_pos (show (n.arcs.getD k Arc.none).to = (j : Int) - 1 by omega), h1]
    omega
  · rw [if_neg h1, if_neg (show ¬ (n.arcs.getD k Arc.none).to = (j : Int) - 1 by omega)]
    by_cases h2 : j = ((n.arcs.getD k Arc.none).frm + 1).toNat
    · rw [if_pos h2, if_pos (show (n.arcs.getD k Arc.none).frm = (j : Int) - 1 by omega), h2]; omega
    · rw [if_neg h2, if_neg (show ¬ (n.arcs.getD k Arc.none).frm = (j : Int) - 1 by omega)]; omega
theorem cntJ_zero {n : Net} (hn : NetOK n) : ∀ k, k ≤ n.arcs.length → cntJ n k 0 = 0
  | 0, _ => by simp [cntJ, rowsAt]
  | k + 1, hk => by
    have ha := hn.arc (show k < n.arcs.length by omega)
    rw [cntJ_next, cntJ_zero hn k (by omega), rowOf_count]
    by_cases h : (n.arcs.getD k Arc.none).frm = (n.arcs.getD k Arc.none).to
    · rw [if_pos h]; rfl
    · rw [if_neg h, if_neg (by omega), if_neg (by omega)]; rfl
theorem preL_zero {n : Net} (hn : NetOK n) : preL n 0 = cntL n n.arcs.length := tab_congr fun j _ => by
  unfold preJ
  by_cases h : j ≤ 0
  · have : j = 0 := by omega
    subst this
    rw [if_pos h, cntJ_zero hn _ (Nat.le_refl _)]; simp [rowsOf]
  · rw [if_neg h]
theorem preL_step {n : Net} {v : Nat} (hv : v < n.N.toNat) : preL n (v + 1) = (preL n v).set (v + 1) ((preL n v).getD (v + 1) 0 + (preL n v).getD v 0) := by
  unfold preL
  rw [tab_get _ _ (by omega), tab_get _ _ (by omega), tab_set]
  refine tab_congr fun j hj => ?_
  try dsimp only
  unfold preJ
  by_cases h1 : j = v + 1
  · subst h1
    rw [if_pos (Nat.le_refl _), if_pos rfl, if_neg (by omega), if_pos (Nat.le_refl _), rowsOf_next, List.length_append]
    unfold cntJ
    rw [show ((v + 1 : Nat) : Int) - 1 = (v : Int) by omega]; omega
  · rw [if_neg h1]
    by_cases h2 : j ≤ v
    · rw [if_pos h2, if_pos (by omega)]
    · rw [if_neg h2, if_neg (by omega)]
theorem preL_first (n : Net) : preL n n.N.toNat = (makeC n).First := by
  show _ = firstOf n n.N.toNat ++ [((rows n).length : Int)]
  unfold preL tab firstOf
  rw [List.range_succ, List.map_append]
  congr 1
  · exact List.map_congr_left fun j hj => by unfold preJ; rw [if_pos (by have := List.mem_range.1 hj; omega)]
  · simp only [List.map_cons, List.map_nil, preJ, if_pos (Nat.le_refl _)]; rfl
theorem first_tab (n : Net) : (makeC n).First = tab (n.N.toNat + 1) (fun j => ((rowsOf n j).length : Int)) := by
  rw [← preL_first]
  exact tab_congr fun j hj => by unfold preJ; rw [if_pos (by omega)]
/-- Where the next residual arc of a vertex goes. -/
def nxtJ (n : Net) (k v : Nat) : Int := ((rowsOf n v).length : Int) + ((rowsAt n (v : Int) k).length : Int)
def nxtL (n : Net) (k : Nat) : List Int := tab (n.N.toNat + 1) (nxtJ n k)
theorem nxtL_len (n : Net) (k : Nat) : (nxtL n k).length = n.N.toNat + 1 := tab_len _ _
theorem nxtL_zero (n : Net) : nxtL n 0 = (makeC n).First := by
  rw [first_tab]; exact tab_congr fun j _ => by simp [nxtJ, rowsAt]
theorem nxtJ_next (n : Net) (k v : Nat) : nxtJ n (k + 1) v = nxtJ n k v + ((rowOf (v : Int) (n.arcs.getD k Arc.none) k).length : Int) := by
  unfold nxtJ; rw [rowsAt_next, List.length_append]; omega
theorem nxtL_same {n : Net} {k : Nat} (h : (n.arcs.getD k Arc.none).frm = (n.arcs.getD k Arc.none).to) : nxtL n (k + 1) = nxtL n k :=
  tab_congr fun i _ => by rw [nxtJ_next, rowOf_count, if_pos h]; omega
theorem nxtL_step {n : Net} (hn : NetOK n) {k : Nat} (hk : k < n.arcs.length) (h : (n.arcs.getD k Arc.none).frm ≠ (n.arcs.getD k Arc.none).to) :
    nxtL n (k + 1) = ((nxtL n k).set (n.arcs.getD k Arc.none).frm.toNat ((nxtL n k).getD (n.arcs.getD k Arc.none).frm.toNat 0 + 1)).set (n.arcs.getD k Arc.none).to.toNat
      (((nxtL n k).set (n.arcs.getD k Arc.none).frm.toNat ((nxtL n k).getD (n.arcs.getD k Arc.none).frm.toNat 0 + 1)).getD (n.arcs.getD k Arc.none).to.toNat 0 + 1) := by
  have ha := hn.arc hk
  unfold nxtL
  rw [tab_get _ _ (by omega), tab_set, tab_get _ _ (by omega), tab_set]
  refine tab_congr fun j hj => ?_
  try dsimp only
  rw [nxtJ_next, rowOf_count, if_neg h]
  by_cases h1 : j = (n.arcs.getD k Arc.none).to.toNat
  · rw [if_pos h1, if_neg (show ¬ (n.arcs.getD k Arc.none).to.toNat = (n.arcs.getD k Arc.none).frm.toNat by omega), if_neg (show ¬ (n.arcs.getD k Arc.none).frm = (j : Int) by omega), if_pos (show (n.arcs.getD k Arc.none).to = (j : Int) by omega), h1]
    omega
  · rw [if_neg h1, if_neg (show ¬ (n.arcs.getD k Arc.none).to = (j : Int) by omega)]
    by_cases h2 : j = (n.arcs.getD k Arc.none).frm.toNat
    · rw [if_pos h2, if_pos (show (n.arcs.getD k Arc.none).frm = (j : Int) by omega), h2]; omega
    · rw [if_neg h2, if_neg (show ¬ (n.arcs.getD k Arc.none).frm = (j : Int) by omega)]; omega
theorem rowsAt_split (n : Net) (v : Int) {k m : Nat} (h : k < m) : ∃ rest, rowsAt n v m = rowsAt n v k ++ rowOf v (n.arcs.getD k Arc.none) k ++ rest := by
  induction m with
  | zero => omega
  | succ m ih =>
    by_cases hk : k = m
    · subst hk; exact ⟨[], by rw [rowsAt_next]; simp⟩
    · obtain ⟨r, hr⟩ := ih (by omega)
      exact ⟨r ++ rowOf v (n.arcs.getD m Arc.none) m, by rw [rowsAt_next, hr]; simp [List.append_assoc]⟩
theorem rowsOf_split (n : Net) {v w : Nat} (h : v < w) : ∃ rest, rowsOf n w = rowsOf n v ++ rowsAt n (v : Int) n.arcs.length ++ rest := by
  induction w with
  | zero => omega
  | succ w ih =>
    by_cases hk : v = w
    · subst hk; exact ⟨[], by rw [rowsOf_next]; simp⟩
    · obtain ⟨r, hr⟩ := ih (by omega)
      exact ⟨r ++ rowsAt n (w : Int) n.arcs.length, by rw [rowsOf_next, hr]; simp [List.append_assoc]⟩
theorem row_at {n : Net} {v k : Nat} {r : Row} (hv : v < n.N.toNat) (hk : k < n.arcs.length) (hr : rowOf (v : Int) (n.arcs.getD k Arc.none) k = [r]) : (0 ≤ nxtJ n k v ∧ nxtJ n k v < ((rows n).length : Int)) ∧ (rows n).getD (nxtJ n k v).toNat Row.none = r := by
  obtain ⟨r1, h1⟩ := rowsOf_split n hv
  obtain ⟨r2, h2⟩ := rowsAt_split n (v : Int) hk
  have e : rows n = (rowsOf n v ++ rowsAt n (v : Int) k) ++ (r :: (r2 ++ r1)) := by
    unfold rows; rw [h1, h2, hr]; simp [List.append_assoc]
  have el : (nxtJ n k v).toNat = (rowsOf n v ++ rowsAt n (v : Int) k).length := by unfold nxtJ; rw [List.length_append]; omega
  refine ⟨⟨by unfold nxtJ; omega, ?_⟩, ?_⟩
  · rw [e]; unfold nxtJ; simp only [List.length_append, List.length_cons]; omega
  · rw [e, el]; simp [List.getD]
theorem row_frm {n : Net} (hn : NetOK n) {k : Nat} (hk : k < n.arcs.length) (h : (n.arcs.getD k Arc.none).frm ≠ (n.arcs.getD k Arc.none).to) :
    (0 ≤ nxtJ n k (n.arcs.getD k Arc.none).frm.toNat ∧ nxtJ n k (n.arcs.getD k Arc.none).frm.toNat < ((rows n).length : Int)) ∧ (rows n).getD (nxtJ n k (n.arcs.getD k Arc.none).frm.toNat).toNat Row.none = ⟨(n.arcs.getD k Arc.none).to, (n.arcs.getD k Arc.none).cap, k, false⟩ := by
  have ha := hn.arc hk
  refine row_at (by omega) hk ?_
  unfold rowOf
  rw [if_neg h, if_pos (by omega), if_neg (by omega)]; rfl
theorem row_to {n : Net} (hn : NetOK n) {k : Nat} (hk : k < n.arcs.length) (h : (n.arcs.getD k Arc.none).frm ≠ (n.arcs.getD k Arc.none).to) :
    (0 ≤ nxtJ n k (n.arcs.getD k Arc.none).to.toNat ∧ nxtJ n k (n.arcs.getD k Arc.none).to.toNat < ((rows n).length : Int)) ∧ (rows n).getD (nxtJ n k (n.arcs.getD k Arc.none).to.toNat).toNat Row.none = ⟨(n.arcs.getD k Arc.none).frm, 0, k, true⟩ := by
  have ha := hn.arc hk
  refine row_at (by omega) hk ?_
  unfold rowOf
  rw [if_neg h, if_neg (by omega), if_pos (by omega)]; rfl
/-- A column, as far as the first arcs tell it. -/
def colL {α : Type} (n : Net) (d : α) (f : Nat → Row → α) (k : Nat) : List α := tab (rows n).length (fun i => if ((rows n).getD i Row.none).arc < k then f i ((rows n).getD i Row.none) else d)
theorem colL_len {α : Type} (n : Net) (d : α) (f : Nat → Row → α) (k : Nat) : (colL n d f k).length = (rows n).length := tab_len _ _
theorem colL_zero {α : Type} {n : Net} (hn : NetOK n) (d : α) (f : Nat → Row → α) : colL n d f 0 = List.replicate (rows n).length d := by
  rw [tab_const]
  refine tab_congr fun i hi => ?_
  obtain ⟨k, _, _, hc⟩ := row_cases hn hi
  rw [if_neg (by rcases hc with e | e <;> rw [e] <;> dsimp only <;> omega)]
theorem colL_all {α : Type} {n : Net} (hn : NetOK n) (d : α) (f : Nat → Row → α) : colL n d f n.arcs.length = tab (rows n).length (fun i => f i ((rows n).getD i Row.none)) := by
  refine tab_congr fun i hi => ?_
  obtain ⟨k, _, _, hc⟩ := row_cases hn hi
  rw [if_pos (by rcases hc with e | e <;> rw [e] <;> dsimp only <;> omega)]
theorem colL_same {α : Type} {n : Net} (hn : NetOK n) {d : α} {f : Nat → Row → α} {k : Nat} (h : (n.arcs.getD k Arc.none).frm = (n.arcs.getD k Arc.none).to) : colL n d f (k + 1) = colL n d f k := by
  refine tab_congr fun i hi => ?_
  obtain ⟨k', _, hne, hc⟩ := row_cases hn hi
  have hkk : k' ≠ k := fun e => hne (e ▸ h)
  have e : ((rows n).getD i Row.none).arc = (k' : Int) := by rcases hc with e | e <;> rw [e]
  by_cases h1 : ((rows n).getD i Row.none).arc < (k : Int)
  · rw [if_pos h1, if_pos (by omega)]
  · rw [if_neg h1, if_neg (by omega)]
theorem colL_step {α : Type} {n : Net} (hn : NetOK n) {d : α} {f : Nat → Row → α} {k : Nat} (hk : k < n.arcs.length) (h : (n.arcs.getD k Arc.none).frm ≠ (n.arcs.getD k Arc.none).to) {i j : Nat} (hi : i = (nxtJ n k (n.arcs.getD k Arc.none).frm.toNat).toNat) (hj : j = (nxtJ n k (n.arcs.getD k Arc.none).to.toNat).toNat) {x y : α} (hx : f i ⟨(n.arcs.getD k Arc.none).to, (n.arcs.getD k Arc.none).cap, k, false⟩ = x) (hy : f j ⟨(n.arcs.getD k Arc.none).frm, 0, k, true⟩ = y) :
    colL n d f (k + 1) = ((colL n d f k).set i x).set j y := by
  obtain ⟨⟨a1, a2⟩, a3⟩ := row_frm hn hk h
  obtain ⟨⟨b1, b2⟩, b3⟩ := row_to hn hk h
  rw [← hi] at a3
  rw [← hj] at b3
  unfold colL
  rw [tab_set, tab_set]
  refine tab_congr fun p hp => ?_
  try dsimp only
  by_cases h1 : p = j
  · rw [if_pos h1, h1, b3, if_pos (by dsimp only; omega), hy]
  · rw [if_neg h1]
    by_cases h2 : p = i
    · rw [if_pos h2, h2, a3, if_pos (by dsimp only; omega), hx]
    · rw [if_neg h2]
      obtain ⟨k', _, hne, hc⟩ := row_cases hn hp
      have hkk : k' ≠ k := by
        intro e
        subst e
        rcases hc with e | e
        · exact h2 (key_inj hp (show i < _ by omega) (by rw [e, a3]))
        · exact h1 (key_inj hp (show j < _ by omega) (by rw [e, b3]))
      have e : ((rows n).getD p Row.none).arc = (k' : Int) := by rcases hc with e | e <;> rw [e]
      by_cases h3 : ((rows n).getD p Row.none).arc < (k : Int)
      · rw [if_pos h3, if_pos (by omega)]
      · rw [if_neg h3, if_neg (by omega)]
def revF (n : Net) (i : Nat) (_ : Row) : Int := (makeC n).Rev.getD i 0
theorem rev_pair {n : Net} (hn : NetOK n) {i j : Nat} (hi : i < (rows n).length) (hj : j < (rows n).length) (h1 : ((rows n).getD i Row.none).arc = ((rows n).getD j Row.none).arc) (h2 : ((rows n).getD j Row.none).back = !((rows n).getD i Row.none).back) : (makeC n).Rev.getD i 0 = (j : Int) := by
  obtain ⟨j', q1, q2, q3, q4, q5⟩ := rev_spec hn hi
  rw [q3]
  have : j' = j := key_inj q1 hj (by unfold Row.key; rw [q4, h1, q5, h2])
  rw [this]
theorem map_tab {α : Type} (l : List Row) (f : Row → α) : l.map f = tab l.length (fun i => f (l.getD i Row.none)) := by
  refine List.ext_getElem (by simp [tab]) fun j h1 h2 => ?_
  have : j < l.length := by simpa using h1
  simp [tab, List.getD, this]
theorem col_hd {n : Net} (hn : NetOK n) : colL n 0 (fun _ r => r.hd) n.arcs.length = (makeC n).Head := by rw [colL_all hn]; exact (map_tab _ _).symm
theorem col_cap {n : Net} (hn : NetOK n) : colL n 0 (fun _ r => r.cap) n.arcs.length = (makeC n).Cap := by rw [colL_all hn]; exact (map_tab _ _).symm
theorem col_arc {n : Net} (hn : NetOK n) : colL n 0 (fun _ r => r.arc) n.arcs.length = (makeC n).Arc := by rw [colL_all hn]; exact (map_tab _ _).symm
theorem col_back {n : Net} (hn : NetOK n) : colL n false (fun _ r => r.back) n.arcs.length = (makeC n).Back := by rw [colL_all hn]; exact (map_tab _ _).symm
theorem col_rev {n : Net} (hn : NetOK n) : colL n 0 (revF n) n.arcs.length = (makeC n).Rev := by
  rw [colL_all hn]
  exact (tab_ext 0 (revOf_one hn (Nat.le_refl _)) fun i _ => rfl).symm
end Go.Proofs

set_option linter.unusedVariables false
set_option linter.unusedSimpArgs false
namespace Go.Proofs
open Go Go.Sx Go.RowKit
theorem lget_ne {l : List Int} {i j : Nat} (h : i ≠ j) (x : Int) : (l.set i x).getD j 0 = l.getD j 0 := by simp only [List.getD]; rw [List.getElem?_set_ne h]
theorem cntL_in {n : Net} (hn : NetOK n) {k j : Nat} (hk : k ≤ n.arcs.length) (hj : j < n.N.toNat + 1) : 0 ≤ (cntL n k).getD j 0 ∧ (cntL n k).getD j 0 ≤ 32768 := by
  unfold cntL; rw [tab_get _ _ hj]; unfold cntJ
  have := rowsAt_len n ((j : Int) - 1) k
  have := hn.many
  omega
theorem many_in {n : Net} (hn : NetOK n) {v : Nat} (hv : v ≤ n.N.toNat) : v * (2 * n.arcs.length) ≤ 134217728 := by
  have h1 := hn.many
  have h2 := hn.hi
  have := Nat.mul_le_mul (show v ≤ 4096 by omega) (show 2 * n.arcs.length ≤ 32768 by omega)
  omega
theorem preL_in {n : Net} (hn : NetOK n) (v : Nat) {j : Nat} (hj : j < n.N.toNat + 1) : 0 ≤ (preL n v).getD j 0 ∧ (preL n v).getD j 0 ≤ 268435456 := by
  unfold preL; rw [tab_get _ _ hj]; unfold preJ cntJ
  have := hn.many
  split
  · have h1 := rowsOf_len n j
    have h2 := many_in hn (show j ≤ n.N.toNat by omega)
    omega
  · have := rowsAt_len n ((j : Int) - 1) n.arcs.length
    omega
set_option maxHeartbeats 8000000 in
set_option synthInstance.maxHeartbeats 400000 in
set_option synthInstance.maxSize 2000 in
theorem t_counted (n : Net) (h : NetOK n) : Tri Try.prog 78 [.agg [.val (.int .i64 n.N), .val (.int .i64 n.S), .val (.int .i64 n.T), .slc 0 0 n.arcs.length none]] [SO.arcs false n.arcs] (fun s H => s = .slc 1 0 ((makeC n).First.length) none ∧ H = [SO.arcs false n.arcs, SO.ints true .i64 ((makeC n).First)]) := by
  refine tri_of_w (fn := Try.f78) Try.func78 rfl (by simp [Try.f78]) ?_
  intro ρ w hρ
  refine w_seq ?_
  have hlo := h.lo
  have hhi := h.hi
  have hm := h.many
  refine w_region ?_
  refine rw_t 1 rfl rfl rfl (n_box_agg (n := 1) rfl rfl ?_)
  refine rw_t 2 rfl rfl rfl (do_assign rfl ?_)
  refine rw_nil ?_
  refine w_seq ?_
  refine w_region ?_
  refine rw_t 7 rfl rfl rfl (do_fieldaddr rfl ?_)
  refine rw_t 8 rfl rfl rfl (do_load_box rfl rfl rfl ?_)
  refine rw_t 9 rfl rfl rfl (do_add rfl rfl (by omega) ?_)
  refine rw_t 10 rfl rfl rfl (n_make (nm := 2) Int (encI .i64) 0 rfl rfl rfl (fun _ => rfl) (fun _ _ h => by simp [encI] at h; subst h; rfl) (by omega) (by omega) (by omega) rfl ?_)
  refine rw_cap 10 rfl ?_
  refine rw_t 3 rfl rfl rfl (do_assign rfl ?_)
  refine rw_nil ?_
  refine w_seq ?_
  refine w_seq ?_
  refine w_region ?_
  refine rw_t 11 rfl rfl rfl (do_fieldaddr rfl ?_)
  refine rw_t 12 rfl rfl rfl (do_load_box rfl rfl rfl ?_)
  refine rw_t 13 rfl rfl rfl (do_len rfl ?_)
  refine rw_t 14 rfl rfl rfl (do_move rfl ?_)
  refine rw_nil ?_
  refine w_block ?_
  refine w_loopS (ι := Nat) (fun i => [(1, .ptr 1 0 0), (2, .val (.slice none 0 0)), (3, .slc 2 0 ((n.N + 1).toNat) none), (12, .slc 0 0 n.arcs.length none), (13, .val (.int .i64 ((n.arcs.length : Nat) : Int))), (14, .val (.int .i64 ((i : Nat) : Int)))]) (fun i => [SO.arcs false n.arcs, .box [.val (.int .i64 n.N), .val (.int .i64 n.S), .val (.int .i64 n.T), .slc 0 0 n.arcs.length none], SO.ints true .i64 (cntL n i)]) (fun i => n.arcs.length - i) (fun i => i ≤ n.arcs.length) (0) [0, 1, 2] (by simp) ⟨shR rfl, shR rfl, .inr ⟨_, rfl, .inl (congrArg (SO.ints true .i64) ((cntL_zero n).trans (by rw [show n.N.toNat + 1 = (n.N + 1).toNat by omega])))⟩, trivial⟩ rfl (pre_ok rfl) hρ ⟨⟨_, rfl, rfl⟩, ⟨_, rfl, rfl⟩, ⟨_, rfl, rfl⟩, ⟨_, rfl, rfl⟩, ⟨_, rfl, rfl⟩, ⟨_, rfl, rfl⟩, trivial⟩ ?_
  intro i hi
  refine w_seq ?_
  refine w_region ?_
  refine rw_t 15 rfl rfl rfl (do_bin rfl rfl rfl ?_)
  refine rw_nil ?_
  refine w_seq ?_
  refine w_cond rfl (fun hc1 => ?_) (fun hc1 => ?_)
  all_goals try simp only [bs] at hc1
  rotate_left
  · refine w_exit ?_
    refine w_seq ?_
    refine w_seq ?_
    refine w_region ?_
    refine rw_t 40 rfl rfl rfl (do_fieldaddr rfl ?_)
    refine rw_t 41 rfl rfl rfl (do_load_box rfl rfl rfl ?_)
    refine rw_t 42 rfl rfl rfl (do_move rfl ?_)
    refine rw_nil ?_
    refine w_block ?_
    obtain rfl : i = n.arcs.length := by omega
    refine w_loopS (ι := Nat) (fun j => [(2, .val (.slice none 0 0)), (3, .slc 2 0 ((n.N + 1).toNat) none), (41, .val (.int .i64 n.N)), (42, .val (.int .i64 ((j : Nat) : Int)))]) (fun j => [SO.arcs false n.arcs, .box [.val (.int .i64 n.N), .val (.int .i64 n.S), .val (.int .i64 n.T), .slc 0 0 n.arcs.length none], SO.ints true .i64 (preL n j)]) (fun j => n.N.toNat - j) (fun j => j ≤ n.N.toNat) (0) [0, 1, 2] (by simp) ⟨shR rfl, shR rfl, .inr ⟨_, rfl, .inl (congrArg (SO.ints true .i64) (preL_zero h))⟩, trivial⟩ rfl (pre_ok rfl) hρ ⟨⟨_, rfl, rfl⟩, ⟨_, rfl, rfl⟩, ⟨_, rfl, rfl⟩, ⟨_, rfl, rfl⟩, trivial⟩ ?_
    intro j hj
    refine w_seq ?_
    refine w_region ?_
    refine rw_t 43 rfl rfl rfl (do_bin rfl rfl rfl ?_)
    refine rw_nil ?_
    refine w_seq ?_
    refine w_cond rfl (fun hc2 => ?_) (fun hc2 => ?_)
    all_goals try simp only [bs] at hc2
    rotate_left
    · refine w_exit ?_
      refine w_seq ?_
      refine w_region ?_
      refine rw_t 57 rfl rfl rfl (do_move rfl ?_)
      refine rw_t 2 rfl rfl rfl (do_assign rfl ?_)
      refine rw_nil ?_
      obtain rfl : j = n.N.toNat := by omega
      refine w_ret ?_
      exact ret_eq (.inl rfl) (.cons (res_tmp rfl) .nil) [0, 2] (congrArg (fun k => SV.slc 2 0 k none) (show (n.N + 1).toNat = (makeC n).First.length by rw [first_tab, tab_len]; omega)) ⟨shR rfl, .inr ⟨_, rfl, .inl (congrArg (SO.ints true .i64) ((preL_first n).symm))⟩, trivial⟩ rfl (pre_ok rfl)
    refine w_skip ?_
    refine w_seq ?_
    refine w_block ?_
    refine w_seq ?_
    refine w_region ?_
    refine rw_t 44 rfl rfl rfl (do_move rfl ?_)
    refine rw_t 6 rfl rfl rfl (do_assign rfl ?_)
    refine rw_nil ?_
    have hl := preL_len n j
    have hp1 := preL_in h j (show j < n.N.toNat + 1 by omega)
    have hp2 := preL_in h j (show j + 1 < n.N.toNat + 1 by omega)
    have hj1 : ((j : Int) + 1).toNat = j + 1 := by omega
    have hp3 : (preL n j).getD ((j : Int) + 1).toNat 0 = (preL n j).getD (j + 1) 0 := by rw [hj1]
    refine w_draw mixed [0, 0, 2, 7, 15, 0, 0, 96, 224] [511, 1023, 2047] (by kernel_rfl) (by kernel_rfl) rfl rfl rfl (hle hρ rfl) ?_
    refine ra_q (j := 0) rfl rfl rfl rfl (do_move rfl ⟨rfl, rfl⟩) (by rfl) ?_
    refine ra_q (j := 1) rfl rfl rfl rfl (do_move rfl ⟨rfl, rfl⟩) (by rfl) ?_
    refine ra_q (j := 2) rfl rfl rfl rfl (do_add rfl rfl (by omega) ⟨rfl, rfl⟩) (by rfl) ?_
    refine ra_q (j := 3) rfl rfl rfl rfl (do_ix0 rfl rfl rfl (by first | omega | (simp only [ls] <;> omega)) ⟨rfl, rfl⟩) (by rfl) ?_
    refine ra_q (j := 4) rfl rfl rfl rfl (do_load_arr rfl rfl (by first | omega | (simp only [ls] <;> omega)) rfl ⟨rfl, rfl⟩) (by rfl) ?_
    refine ra_q (j := 5) rfl rfl rfl rfl (do_move rfl ⟨rfl, rfl⟩) (by rfl) ?_
    refine ra_q (j := 6) rfl rfl rfl rfl (do_move rfl ⟨rfl, rfl⟩) (by rfl) ?_
    refine ra_q (j := 7) rfl rfl rfl rfl (do_ixn rfl rfl rfl (by first | omega | (simp only [ls] <;> omega)) ⟨rfl, rfl⟩) (by rfl) ?_
    refine ra_q (j := 8) rfl rfl rfl rfl (do_load_arr rfl rfl (by first | omega | (simp only [ls] <;> omega)) rfl ⟨rfl, rfl⟩) (by rfl) ?_
    refine n_done ?_
    refine rw_t 54 rfl rfl rfl (do_add rfl rfl (by omega) ?_)
    refine rw_t 55 rfl rfl rfl (do_ix0 rfl rfl rfl (by first | omega | (simp only [ls] <;> omega)) ?_)
    refine rw_u rfl rfl (n_store_arr (z := (((preL n j).getD ((((j : Nat) : Int) + 1).toNat) 0) + ((preL n j).getD j 0))) rfl rfl rfl (by first | omega | (simp only [ls] <;> omega)) rfl (by decide) rfl ?_)
    refine rw_nil ?_
    refine w_region ?_
    refine rw_t 56 rfl rfl rfl (do_add rfl rfl (by omega) ?_)
    refine rw_t 42 rfl rfl rfl (do_move rfl ?_)
    refine rw_nil ?_
    refine ⟨j + 1, [0, 1, 2], by dsimp only; omega, by omega, ⟨shR rfl, shR rfl, .inr ⟨_, rfl, .inl (congrArg (SO.ints true .i64) (by rw [hj1]; exact preL_step (by omega)))⟩, trivial⟩, rfl, pre_ok rfl, ⟨⟨_, rfl, rfl⟩, ⟨_, rfl, rfl⟩, ⟨_, rfl, rfl⟩, ⟨_, rfl, rfl⟩, trivial⟩⟩
  refine w_skip ?_
  refine w_seq ?_
  refine w_block ?_
  refine w_seq ?_
  have ha := h.arc (show i < n.arcs.length by omega)
  have hl := cntL_len n i
  refine w_region ?_
  refine rw_t 16 rfl rfl rfl (do_ixn rfl rfl rfl (by first | omega | (simp only [ls] <;> omega)) ?_)
  refine rw_t 17 rfl rfl rfl (n_load_arragg [_, _, _] rfl rfl rfl (by first | omega | (simp only [ls] <;> omega)) rfl ?_)
  refine rw_t 5 rfl rfl rfl (n_alloc (n := 3) rfl ?_)
  refine rw_u rfl rfl (n_store_whole rfl rfl rfl rfl rfl rfl ?_)
  refine rw_nil ?_
  refine w_seq ?_
  refine w_region ?_
  refine rw_t 18 rfl rfl rfl (do_fieldaddr rfl ?_)
  refine rw_t 19 rfl rfl rfl (do_load_box rfl rfl rfl ?_)
  refine rw_t 20 rfl rfl rfl (do_fieldaddr rfl ?_)
  refine rw_t 21 rfl rfl rfl (do_load_box rfl rfl rfl ?_)
  refine rw_t 22 rfl rfl rfl (do_bin rfl rfl rfl ?_)
  refine rw_nil ?_
  refine w_cond rfl (fun hc3 => ?_) (fun hc3 => ?_)
  all_goals try simp only [bs] at hc3
  · refine w_seq ?_
    have hq1 := cntL_in h (show i ≤ n.arcs.length by omega) (show ((n.arcs.getD i Arc.none).frm + 1).toNat < n.N.toNat + 1 by omega)
    have hq2 := cntL_in h (show i ≤ n.arcs.length by omega) (show ((n.arcs.getD i Arc.none).to + 1).toNat < n.N.toNat + 1 by omega)
    refine w_region ?_
    refine rw_t 23 rfl rfl rfl (do_move rfl ?_)
    refine rw_t 24 rfl rfl rfl (do_fieldaddr rfl ?_)
    refine rw_t 25 rfl rfl rfl (do_load_box rfl rfl rfl ?_)
    refine rw_t 26 rfl rfl rfl (do_add rfl rfl (by omega) ?_)
    refine rw_t 27 rfl rfl rfl (do_ix0 rfl rfl rfl (by first | omega | (simp only [ls] <;> omega)) ?_)
    refine rw_t 28 rfl rfl rfl (do_load_arr rfl rfl (by first | omega | (simp only [ls] <;> omega)) rfl ?_)
    refine rw_t 29 rfl rfl rfl (do_add rfl rfl (by omega) ?_)
    refine rw_t 30 rfl rfl rfl (do_ix0 rfl rfl rfl (by first | omega | (simp only [ls] <;> omega)) ?_)
    refine rw_u rfl rfl (n_store_arr (z := (((cntL n i).getD (((n.arcs.getD i Arc.none).frm + 1).toNat) 0) + 1)) rfl rfl rfl (by first | omega | (simp only [ls] <;> omega)) rfl (by decide) rfl ?_)
    refine rw_nil ?_
    have hgs : ((cntL n i).set ((n.arcs.getD i Arc.none).frm + 1).toNat ((cntL n i).getD ((n.arcs.getD i Arc.none).frm + 1).toNat 0 + 1)).getD ((n.arcs.getD i Arc.none).to + 1).toNat 0 = (cntL n i).getD ((n.arcs.getD i Arc.none).to + 1).toNat 0 := lget_ne (by omega) _
    refine w_region ?_
    refine rw_t 31 rfl rfl rfl (do_move rfl ?_)
    refine rw_t 32 rfl rfl rfl (do_fieldaddr rfl ?_)
    refine rw_t 33 rfl rfl rfl (do_load_box rfl rfl rfl ?_)
    refine rw_t 34 rfl rfl rfl (do_add rfl rfl (by omega) ?_)
    refine rw_t 35 rfl rfl rfl (do_ix0 rfl rfl rfl (by first | omega | (simp only [ls] <;> omega)) ?_)
    refine rw_t 36 rfl rfl rfl (do_load_arr rfl rfl (by first | omega | (simp only [ls] <;> omega)) rfl ?_)
    refine rw_t 37 rfl rfl rfl (do_add rfl rfl (by omega) ?_)
    refine rw_t 38 rfl rfl rfl (do_ix0 rfl rfl rfl (by first | omega | (simp only [ls] <;> omega)) ?_)
    refine rw_u rfl rfl (n_store_arr (z := ((((cntL n i).set (((n.arcs.getD i Arc.none).frm + 1).toNat) (((cntL n i).getD (((n.arcs.getD i Arc.none).frm + 1).toNat) 0) + 1)).getD (((n.arcs.getD i Arc.none).to + 1).toNat) 0) + 1)) rfl rfl rfl (by first | omega | (simp only [ls] <;> omega)) rfl (by decide) rfl ?_)
    refine rw_nil ?_
    refine w_region ?_
    refine rw_t 39 rfl rfl rfl (do_add rfl rfl (by omega) ?_)
    refine rw_t 14 rfl rfl rfl (do_move rfl ?_)
    refine rw_nil ?_
    refine ⟨i + 1, [0, 1, 2], by dsimp only; omega, by omega, ⟨shR rfl, shR rfl, .inr ⟨_, rfl, .inl (congrArg (SO.ints true .i64) (cntL_step h (by omega) hc3))⟩, trivial⟩, rfl, pre_ok rfl, ⟨⟨_, rfl, rfl⟩, ⟨_, rfl, rfl⟩, ⟨_, rfl, rfl⟩, ⟨_, rfl, rfl⟩, ⟨_, rfl, rfl⟩, ⟨_, rfl, rfl⟩, trivial⟩⟩
  · refine w_skip ?_
    refine w_region ?_
    refine rw_t 39 rfl rfl rfl (do_add rfl rfl (by omega) ?_)
    refine rw_t 14 rfl rfl rfl (do_move rfl ?_)
    refine rw_nil ?_
    refine ⟨i + 1, [0, 1, 2], by dsimp only; omega, by omega, ⟨shR rfl, shR rfl, .inr ⟨_, rfl, .inl (congrArg (SO.ints true .i64) (cntL_same (by omega)))⟩, trivial⟩, rfl, pre_ok rfl, ⟨⟨_, rfl, rfl⟩, ⟨_, rfl, rfl⟩, ⟨_, rfl, rfl⟩, ⟨_, rfl, rfl⟩, ⟨_, rfl, rfl⟩, ⟨_, rfl, rfl⟩, trivial⟩⟩
set_option maxHeartbeats 8000000 in
set_option synthInstance.maxHeartbeats 400000 in
set_option synthInstance.maxSize 2000 in
theorem t_put (c0 c1 c2 : Int) (nx fi hd rv cp ak : List Int) (bk : List Bool) (u to most arc : Int) (b : Bool) (nl lf lh lr lc la lb : Nat) (hnl : nl = nx.length ∧ ((lh = hd.length ∧ lc = hd.length) ∧ (la = hd.length ∧ lb = hd.length))) (hu : 0 ≤ u ∧ u < nx.length) (ha : 0 ≤ nx.getD u.toNat 0 ∧ nx.getD u.toNat 0 < hd.length) (hl : (cp.length = hd.length ∧ ak.length = hd.length) ∧ bk.length = hd.length) (hs : hd.length ≤ 268435456) : Tri Try.prog 79 [.val (.int .i64 u), .val (.int .i64 to), .val (.int .i64 most), .val (.int .i64 arc), .val (.bool b), .ptr 0 0 0, .ptr 2 0 0] [.box [.slc 1 0 nl none], SO.ints true .i64 nx, .box [.val (.int .i64 c0), .val (.int .i64 c1), .val (.int .i64 c2), .slc 3 0 lf none, .slc 4 0 lh none, .slc 5 0 lr none, .slc 6 0 lc none, .slc 7 0 la none, .slc 8 0 lb none], SO.ints true .i64 fi, SO.ints true .i64 hd, SO.ints true .i64 rv, SO.ints true .i64 cp, SO.ints true .i64 ak, SO.bools true bk] (fun s H => s = .val (.int .i64 (nx.getD u.toNat 0)) ∧ H = [.box [.slc 1 0 nl none], SO.ints true .i64 (nx.set u.toNat ((nx.getD u.toNat 0) + 1)), .box [.val (.int .i64 c0), .val (.int .i64 c1), .val (.int .i64 c2), .slc 3 0 lf none, .slc 4 0 lh none, .slc 5 0 lr none, .slc 6 0 lc none, .slc 7 0 la none, .slc 8 0 lb none], SO.ints true .i64 fi, SO.ints true .i64 (hd.set (nx.getD u.toNat 0).toNat to), SO.ints true .i64 rv, SO.ints true .i64 (cp.set (nx.getD u.toNat 0).toNat most), SO.ints true .i64 (ak.set (nx.getD u.toNat 0).toNat arc), SO.bools true (bk.set (nx.getD u.toNat 0).toNat b)]) := by
  refine tri_of_w (fn := Try.f79) Try.func79 rfl (by simp [Try.f79]) ?_
  intro ρ w hρ
  refine w_seq ?_
  refine w_region ?_
  refine rw_t 12 rfl rfl rfl (do_assign rfl ?_)
  refine rw_nil ?_
  refine w_seq ?_
  refine w_region ?_
  refine rw_t 14 rfl rfl rfl (do_load_box rfl rfl rfl ?_)
  refine rw_t 15 rfl rfl rfl (do_move rfl ?_)
  refine rw_t 16 rfl rfl rfl (do_ix0 rfl rfl rfl (by first | omega | (simp only [ls] <;> omega)) ?_)
  refine rw_t 17 rfl rfl rfl (do_load_arr rfl rfl (by first | omega | (simp only [ls] <;> omega)) rfl ?_)
  refine rw_t 13 rfl rfl rfl (do_assign rfl ?_)
  refine rw_nil ?_
  refine w_seq ?_
  refine w_region ?_
  refine rw_t 18 rfl rfl rfl (do_load_box rfl rfl rfl ?_)
  refine rw_t 19 rfl rfl rfl (do_move rfl ?_)
  refine rw_t 20 rfl rfl rfl (do_ix0 rfl rfl rfl (by first | omega | (simp only [ls] <;> omega)) ?_)
  refine rw_t 21 rfl rfl rfl (do_load_arr rfl rfl (by first | omega | (simp only [ls] <;> omega)) rfl ?_)
  refine rw_t 22 rfl rfl rfl (do_add rfl rfl (by omega) ?_)
  refine rw_t 23 rfl rfl rfl (do_ix0 rfl rfl rfl (by first | omega | (simp only [ls] <;> omega)) ?_)
  refine rw_u rfl rfl (n_store_arr (z := ((nx.getD u.toNat 0) + 1)) rfl rfl rfl (by first | omega | (simp only [ls] <;> omega)) rfl (by decide) rfl ?_)
  refine rw_nil ?_
  refine w_seq ?_
  refine wb_draw mixed [0, 1, 0, 0, 8, 0, 0, 64, 0, 0, 512, 0, 0, 0, 0, 0, 4103, 69639, 208959, 471103, 1012223, 2060799] [4194303, 8388607] [(17, 4, SO.ints true .i64 (hd.set ((nx.getD u.toNat 0).toNat) to)), (19, 6, SO.ints true .i64 (cp.set ((nx.getD u.toNat 0).toNat) most)), (21, 7, SO.ints true .i64 (ak.set ((nx.getD u.toNat 0).toNat) arc))] (by kernel_rfl) (by kernel_rfl) rfl rfl rfl rfl rfl (hle hρ rfl) ?_
  refine rb_q 0 rfl rfl rfl rfl rfl rfl (do_fieldaddr rfl ⟨rfl, rfl⟩) (by rfl) ?_
  refine rb_q 1 rfl rfl rfl rfl rfl rfl (do_load_box rfl rfl rfl ⟨rfl, rfl⟩) (by rfl) ?_
  refine rb_q 2 rfl rfl rfl rfl rfl rfl (do_move rfl ⟨rfl, rfl⟩) (by rfl) ?_
  refine rb_q 3 rfl rfl rfl rfl rfl rfl (do_fieldaddr rfl ⟨rfl, rfl⟩) (by rfl) ?_
  refine rb_q 4 rfl rfl rfl rfl rfl rfl (do_load_box rfl rfl rfl ⟨rfl, rfl⟩) (by rfl) ?_
  refine rb_q 5 rfl rfl rfl rfl rfl rfl (do_move rfl ⟨rfl, rfl⟩) (by rfl) ?_
  refine rb_q 6 rfl rfl rfl rfl rfl rfl (do_fieldaddr rfl ⟨rfl, rfl⟩) (by rfl) ?_
  refine rb_q 7 rfl rfl rfl rfl rfl rfl (do_load_box rfl rfl rfl ⟨rfl, rfl⟩) (by rfl) ?_
  refine rb_q 8 rfl rfl rfl rfl rfl rfl (do_move rfl ⟨rfl, rfl⟩) (by rfl) ?_
  refine rb_q 9 rfl rfl rfl rfl rfl rfl (do_fieldaddr rfl ⟨rfl, rfl⟩) (by rfl) ?_
  refine rb_q 10 rfl rfl rfl rfl rfl rfl (do_load_box rfl rfl rfl ⟨rfl, rfl⟩) (by rfl) ?_
  refine rb_q 11 rfl rfl rfl rfl rfl rfl (do_move rfl ⟨rfl, rfl⟩) (by rfl) ?_
  refine rb_q 12 rfl rfl rfl rfl rfl rfl (do_move rfl ⟨rfl, rfl⟩) (by rfl) ?_
  refine rb_q 13 rfl rfl rfl rfl rfl rfl (do_move rfl ⟨rfl, rfl⟩) (by rfl) ?_
  refine rb_q 14 rfl rfl rfl rfl rfl rfl (do_move rfl ⟨rfl, rfl⟩) (by rfl) ?_
  refine rb_q 15 rfl rfl rfl rfl rfl rfl (do_move rfl ⟨rfl, rfl⟩) (by rfl) ?_
  refine rb_q 16 rfl rfl rfl rfl rfl rfl (do_ix0 rfl rfl rfl (by first | omega | (simp only [ls] <;> omega)) ⟨rfl, rfl⟩) (by rfl) ?_
  refine rb_w 17 0 4 rfl rfl rfl trivial rfl rfl rfl rfl rfl (do_store_arr (z := to) rfl rfl rfl (by first | omega | (simp only [ls] <;> omega)) rfl (by decide) rfl ⟨rfl, rfl⟩) (by rfl) ?_
  refine rb_q 18 rfl rfl rfl rfl rfl rfl (do_ix0 rfl rfl rfl (by first | omega | (simp only [ls] <;> omega)) ⟨rfl, rfl⟩) (by rfl) ?_
  refine rb_w 19 1 6 rfl rfl rfl trivial rfl rfl rfl rfl rfl (do_store_arr (z := most) rfl rfl rfl (by first | omega | (simp only [ls] <;> omega)) rfl (by decide) rfl ⟨rfl, rfl⟩) (by rfl) ?_
  refine rb_q 20 rfl rfl rfl rfl rfl rfl (do_ix0 rfl rfl rfl (by first | omega | (simp only [ls] <;> omega)) ⟨rfl, rfl⟩) (by rfl) ?_
  refine rb_w 21 2 7 rfl rfl rfl trivial rfl rfl rfl rfl rfl (do_store_arr (z := arc) rfl rfl rfl (by first | omega | (simp only [ls] <;> omega)) rfl (by decide) rfl ⟨rfl, rfl⟩) (by rfl) ?_
  refine rb_done (HB := [.box [.slc 1 0 nl none], SO.ints true .i64 (nx.set u.toNat ((nx.getD u.toNat 0) + 1)), .box [.val (.int .i64 c0), .val (.int .i64 c1), .val (.int .i64 c2), .slc 3 0 lf none, .slc 4 0 lh none, .slc 5 0 lr none, .slc 6 0 lc none, .slc 7 0 la none, .slc 8 0 lb none], SO.ints true .i64 fi, SO.ints true .i64 (hd.set ((nx.getD u.toNat 0).toNat) to), SO.ints true .i64 rv, SO.ints true .i64 (cp.set ((nx.getD u.toNat 0).toNat) most), SO.ints true .i64 (ak.set ((nx.getD u.toNat 0).toNat) arc), SO.bools true bk]) rfl ?_
  refine rw_t 43 rfl rfl rfl (do_ix0 rfl rfl rfl (by first | omega | (simp only [ls] <;> omega)) ?_)
  refine rw_u rfl rfl (n_store_arr (z := b) rfl rfl rfl (by first | omega | (simp only [ls] <;> omega)) rfl (by decide) rfl ?_)
  refine rw_nil ?_
  refine w_seq ?_
  refine w_region ?_
  refine rw_t 44 rfl rfl rfl (do_move rfl ?_)
  refine rw_t 12 rfl rfl rfl (do_assign rfl ?_)
  refine rw_nil ?_
  refine w_ret ?_
  exact ret_eq (.inl rfl) (.cons (res_tmp rfl) .nil) [0, 1, 2, 3, 4, 5, 6, 7, 8] (rfl) ⟨shR rfl, shR rfl, shR rfl, shR rfl, shR rfl, shR rfl, shR rfl, shR rfl, shR rfl, trivial⟩ rfl (pre_ok rfl)
end Go.Proofs

set_option linter.unusedVariables false
set_option linter.unusedSimpArgs false
namespace Go.Proofs
open Go Go.Sx Go.RowKit
theorem first_last (n : Net) : (makeC n).First.getD n.N.toNat 0 = (((rows n).length : Nat) : Int) := by
  rw [first_tab, tab_get _ _ (by omega)]; rfl
theorem first_len (n : Net) : (makeC n).First.length = n.N.toNat + 1 := by rw [first_tab, tab_len]
theorem rows_many {n : Net} (hn : NetOK n) : (rows n).length ≤ 134217728 := by
  have h1 := rowsOf_len n n.N.toNat
  have h2 := many_in hn (Nat.le_refl n.N.toNat)
  show (rowsOf n n.N.toNat).length ≤ _
  omega
set_option maxHeartbeats 8000000 in
set_option synthInstance.maxHeartbeats 400000 in
set_option synthInstance.maxSize 2000 in
theorem t_pMake (n : Net) (h : NetOK n) : Tri Try.prog 60 [.agg [.val (.int .i64 n.N), .val (.int .i64 n.S), .val (.int .i64 n.T), .slc 0 0 n.arcs.length none]] [SO.arcs false n.arcs] (fun s H => s = .tup [.agg [.val (.int .i64 ((makeC n).N)), .val (.int .i64 ((makeC n).S)), .val (.int .i64 ((makeC n).T)), .slc 1 0 ((makeC n).First.length) none, .slc 2 0 ((makeC n).Head.length) none, .slc 3 0 ((makeC n).Rev.length) none, .slc 4 0 ((makeC n).Cap.length) none, .slc 5 0 ((makeC n).Arc.length) none, .slc 6 0 ((makeC n).Back.length) none], .val (.int .i64 0)] ∧ H = [SO.arcs false n.arcs, SO.ints true .i64 ((makeC n).First), SO.ints true .i64 ((makeC n).Head), SO.ints true .i64 ((makeC n).Rev), SO.ints true .i64 ((makeC n).Cap), SO.ints true .i64 ((makeC n).Arc), SO.bools true ((makeC n).Back)]) := by
  refine tri_of_w (fn := Try.f60) Try.func60 rfl (by simp [Try.f60]) ?_
  intro ρ w hρ
  refine w_seq ?_
  have hlo := h.lo
  have hhi := h.hi
  have hm := h.many
  refine w_region ?_
  refine rw_t 1 rfl rfl rfl (n_box_agg (n := 1) rfl rfl ?_)
  refine rw_t 2 rfl rfl rfl (n_alloc (n := 2) rfl ?_)
  refine rw_t 3 rfl rfl rfl (do_assign rfl ?_)
  refine rw_nil ?_
  refine w_seq ?_
  refine w_seq ?_
  refine w_region ?_
  refine rw_t 13 rfl rfl rfl (n_load_boxagg [_, _, _, _] rfl rfl (Nat.le_of_ble_eq_true rfl) rfl ?_)
  refine rw_t 14 rfl rfl rfl (do_callR (X' := .val (.int .i64 0)) rfl rfl (t_pCheck (n := n) (h)) [0] ⟨.inr ⟨_, rfl, srv⟩, trivial⟩ rfl rfl rfl ?_)
  refine rw_t 4 rfl rfl rfl (do_assign rfl ?_)
  refine rw_nil ?_
  refine w_seq ?_
  refine w_region ?_
  refine rw_t 15 rfl rfl rfl (do_move rfl ?_)
  refine rw_t 16 rfl rfl rfl (do_bin rfl rfl rfl ?_)
  refine rw_nil ?_
  refine w_cond rfl (fun hc1 => ?_) (fun hc1 => ?_)
  · exfalso; simp at hc1
  refine w_skip ?_
  refine w_seq ?_
  have hfl := first_len n
  have hrm := rows_many h
  refine w_draw mixed [0, 1, 0, 4, 0, 16, 0, 64, 255, 0] [1023] (by kernel_rfl) (by kernel_rfl) rfl rfl rfl (hle hρ rfl) ?_
  refine ra_q (j := 0) rfl rfl rfl rfl (do_fieldaddr rfl ⟨rfl, rfl⟩) (by rfl) ?_
  refine ra_q (j := 1) rfl rfl rfl rfl (do_load_box rfl rfl rfl ⟨rfl, rfl⟩) (by rfl) ?_
  refine ra_q (j := 2) rfl rfl rfl rfl (do_fieldaddr rfl ⟨rfl, rfl⟩) (by rfl) ?_
  refine ra_q (j := 3) rfl rfl rfl rfl (do_load_box rfl rfl rfl ⟨rfl, rfl⟩) (by rfl) ?_
  refine ra_q (j := 4) rfl rfl rfl rfl (do_fieldaddr rfl ⟨rfl, rfl⟩) (by rfl) ?_
  refine ra_q (j := 5) rfl rfl rfl rfl (do_load_box rfl rfl rfl ⟨rfl, rfl⟩) (by rfl) ?_
  refine ra_q (j := 6) rfl rfl rfl rfl (n_load_boxagg [_, _, _, _] rfl rfl (Nat.le_of_ble_eq_true rfl) rfl ⟨rfl, rfl⟩) (by rfl) ?_
  refine ra_n (j := 7) rfl rfl rfl rfl (g_callN (X' := .slc 3 0 ((makeC n).First.length) none) (N' := [SO.ints true .i64 ((makeC n).First)]) rfl rfl (t_counted (n := n) (h)) [0] ⟨.inr ⟨_, rfl, srv⟩, trivial⟩ rfl rfl rfl rfl rfl ⟨rfl, rfl⟩) (by rfl) (by rfl) (by rfl) ?_
  refine ra_q (j := 8) rfl rfl rfl rfl (do_build (out := [_, _, _, _, _, _, _, _, _]) rfl rfl ⟨rfl, rfl⟩) (by rfl) ?_
  refine ra_n (j := 9) rfl rfl rfl rfl (g_alloc (n := 4) rfl ⟨rfl, rfl⟩) (by rfl) (by rfl) (by rfl) ?_
  refine n_done ?_
  refine rw_u rfl rfl (n_store_whole rfl rfl rfl rfl rfl rfl ?_)
  refine rw_nil ?_
  refine w_seq ?_
  refine w_region ?_
  refine rw_t 28 rfl rfl rfl (do_fieldaddr rfl ?_)
  refine rw_t 29 rfl rfl rfl (do_load_box rfl rfl rfl ?_)
  refine rw_t 30 rfl rfl rfl (do_fieldaddr rfl ?_)
  refine rw_t 31 rfl rfl rfl (do_load_box rfl rfl rfl ?_)
  refine rw_t 32 rfl rfl rfl (do_ix0 rfl rfl rfl (by first | omega | (simp only [ls] <;> omega)) ?_)
  refine rw_t 33 rfl rfl rfl (do_load_arr rfl rfl (by first | omega | (simp only [ls] <;> omega)) rfl ?_)
  refine rw_as (.val (.int .i64 (((rows n).length : Nat) : Int))) (val_congr (first_last n)) ?_
  refine rw_t 6 rfl rfl rfl (do_assign rfl ?_)
  refine rw_nil ?_
  refine w_seq ?_
  refine wb_draw mixed [0, 1, 0, 4, 0, 16, 0, 64, 0, 256, 3, 1027, 3087, 7183, 15423, 31807, 64767, 130303] [262143, 524287] [(11, 4, .box [.val (.int .i64 n.N), .val (.int .i64 n.S), .val (.int .i64 n.T), .slc 3 0 ((makeC n).First.length) none, .slc 5 0 ((((rows n).length : Nat) : Int).toNat) (some ((((rows n).length : Nat) : Int).toNat)), .val (.slice none 0 0), .val (.slice none 0 0), .val (.slice none 0 0), .val (.slice none 0 0)]), (13, 4, .box [.val (.int .i64 n.N), .val (.int .i64 n.S), .val (.int .i64 n.T), .slc 3 0 ((makeC n).First.length) none, .slc 5 0 ((((rows n).length : Nat) : Int).toNat) (some ((((rows n).length : Nat) : Int).toNat)), .slc 6 0 ((((rows n).length : Nat) : Int).toNat) (some ((((rows n).length : Nat) : Int).toNat)), .val (.slice none 0 0), .val (.slice none 0 0), .val (.slice none 0 0)]), (15, 4, .box [.val (.int .i64 n.N), .val (.int .i64 n.S), .val (.int .i64 n.T), .slc 3 0 ((makeC n).First.length) none, .slc 5 0 ((((rows n).length : Nat) : Int).toNat) (some ((((rows n).length : Nat) : Int).toNat)), .slc 6 0 ((((rows n).length : Nat) : Int).toNat) (some ((((rows n).length : Nat) : Int).toNat)), .slc 7 0 ((((rows n).length : Nat) : Int).toNat) (some ((((rows n).length : Nat) : Int).toNat)), .val (.slice none 0 0), .val (.slice none 0 0)]), (17, 4, .box [.val (.int .i64 n.N), .val (.int .i64 n.S), .val (.int .i64 n.T), .slc 3 0 ((makeC n).First.length) none, .slc 5 0 ((((rows n).length : Nat) : Int).toNat) (some ((((rows n).length : Nat) : Int).toNat)), .slc 6 0 ((((rows n).length : Nat) : Int).toNat) (some ((((rows n).length : Nat) : Int).toNat)), .slc 7 0 ((((rows n).length : Nat) : Int).toNat) (some ((((rows n).length : Nat) : Int).toNat)), .slc 8 0 ((((rows n).length : Nat) : Int).toNat) (some ((((rows n).length : Nat) : Int).toNat)), .val (.slice none 0 0)])] (by kernel_rfl) (by kernel_rfl) rfl rfl rfl rfl rfl (hle hρ rfl) ?_
  refine rb_q 0 rfl rfl rfl rfl rfl rfl (do_move rfl ⟨rfl, rfl⟩) (by rfl) ?_
  refine rb_n 1 rfl rfl rfl rfl rfl rfl (g_make (nm := 5) Int (encI .i64) 0 rfl rfl rfl (fun _ => rfl) (fun _ _ h => by simp [encI] at h; subst h; rfl) (by omega) (by omega) (by omega) rfl ⟨rfl, rfl⟩) (by rfl) (by rfl) (by rfl) ?_
  refine rb_q 2 rfl rfl rfl rfl rfl rfl (do_move rfl ⟨rfl, rfl⟩) (by rfl) ?_
  refine rb_n 3 rfl rfl rfl rfl rfl rfl (g_make (nm := 6) Int (encI .i64) 0 rfl rfl rfl (fun _ => rfl) (fun _ _ h => by simp [encI] at h; subst h; rfl) (by omega) (by omega) (by omega) rfl ⟨rfl, rfl⟩) (by rfl) (by rfl) (by rfl) ?_
  refine rb_q 4 rfl rfl rfl rfl rfl rfl (do_move rfl ⟨rfl, rfl⟩) (by rfl) ?_
  refine rb_n 5 rfl rfl rfl rfl rfl rfl (g_make (nm := 7) Int (encI .i64) 0 rfl rfl rfl (fun _ => rfl) (fun _ _ h => by simp [encI] at h; subst h; rfl) (by omega) (by omega) (by omega) rfl ⟨rfl, rfl⟩) (by rfl) (by rfl) (by rfl) ?_
  refine rb_q 6 rfl rfl rfl rfl rfl rfl (do_move rfl ⟨rfl, rfl⟩) (by rfl) ?_
  refine rb_n 7 rfl rfl rfl rfl rfl rfl (g_make (nm := 8) Int (encI .i64) 0 rfl rfl rfl (fun _ => rfl) (fun _ _ h => by simp [encI] at h; subst h; rfl) (by omega) (by omega) (by omega) rfl ⟨rfl, rfl⟩) (by rfl) (by rfl) (by rfl) ?_
  refine rb_q 8 rfl rfl rfl rfl rfl rfl (do_move rfl ⟨rfl, rfl⟩) (by rfl) ?_
  refine rb_n 9 rfl rfl rfl rfl rfl rfl (g_make (nm := 9) Bool encB false rfl rfl rfl (fun _ => rfl) (fun _ _ h => by simp [encB] at h; subst h; rfl) (by omega) (by omega) (by omega) rfl ⟨rfl, rfl⟩) (by rfl) (by rfl) (by rfl) ?_
  refine rb_q 10 rfl rfl rfl rfl rfl rfl (do_fieldaddr rfl ⟨rfl, rfl⟩) (by rfl) ?_
  refine rb_w 11 0 4 rfl rfl rfl trivial rfl rfl rfl rfl rfl (do_store_box rfl rfl rfl (Nat.le_of_ble_eq_true rfl) rfl ⟨rfl, rfl⟩) (by rfl) ?_
  refine rb_q 12 rfl rfl rfl rfl rfl rfl (do_fieldaddr rfl ⟨rfl, rfl⟩) (by rfl) ?_
  refine rb_w 13 1 4 rfl rfl rfl trivial rfl rfl rfl rfl rfl (do_store_box rfl rfl rfl (Nat.le_of_ble_eq_true rfl) rfl ⟨rfl, rfl⟩) (by rfl) ?_
  refine rb_q 14 rfl rfl rfl rfl rfl rfl (do_fieldaddr rfl ⟨rfl, rfl⟩) (by rfl) ?_
  refine rb_w 15 2 4 rfl rfl rfl trivial rfl rfl rfl rfl rfl (do_store_box rfl rfl rfl (Nat.le_of_ble_eq_true rfl) rfl ⟨rfl, rfl⟩) (by rfl) ?_
  refine rb_q 16 rfl rfl rfl rfl rfl rfl (do_fieldaddr rfl ⟨rfl, rfl⟩) (by rfl) ?_
  refine rb_w 17 3 4 rfl rfl rfl trivial rfl rfl rfl rfl rfl (do_store_box rfl rfl rfl (Nat.le_of_ble_eq_true rfl) rfl ⟨rfl, rfl⟩) (by rfl) ?_
  refine rb_done (HB := [SO.arcs false n.arcs, .box [.val (.int .i64 n.N), .val (.int .i64 n.S), .val (.int .i64 n.T), .slc 0 0 n.arcs.length none], .box [.val (.int .i64 0), .val (.int .i64 0), .val (.int .i64 0), .val (.slice none 0 0), .val (.slice none 0 0), .val (.slice none 0 0), .val (.slice none 0 0), .val (.slice none 0 0), .val (.slice none 0 0)], SO.ints true .i64 ((makeC n).First), .box [.val (.int .i64 n.N), .val (.int .i64 n.S), .val (.int .i64 n.T), .slc 3 0 ((makeC n).First.length) none, .slc 5 0 ((((rows n).length : Nat) : Int).toNat) (some ((((rows n).length : Nat) : Int).toNat)), .slc 6 0 ((((rows n).length : Nat) : Int).toNat) (some ((((rows n).length : Nat) : Int).toNat)), .slc 7 0 ((((rows n).length : Nat) : Int).toNat) (some ((((rows n).length : Nat) : Int).toNat)), .slc 8 0 ((((rows n).length : Nat) : Int).toNat) (some ((((rows n).length : Nat) : Int).toNat)), .val (.slice none 0 0)]]) rfl ?_
  refine rw_t 48 rfl rfl rfl (do_fieldaddr rfl ?_)
  refine rw_u rfl rfl (n_store_box (f := 8) rfl rfl rfl (Nat.le_of_ble_eq_true rfl) rfl ?_)
  refine rw_nil ?_
  refine w_seq ?_
  refine w_region ?_
  refine rw_t 49 rfl rfl rfl (do_fieldaddr rfl ?_)
  refine rw_t 50 rfl rfl rfl (do_load_box rfl rfl rfl ?_)
  refine rw_t 51 rfl rfl rfl (n_callN (X' := .slc 10 0 (((makeC n).First).length) none) (N' := [SO.ints true .i64 ((makeC n).First)]) rfl rfl (t_CloneInts (xs := (makeC n).First) (by omega)) [3] ⟨.inr ⟨_, rfl, srv⟩, trivial⟩ rfl rfl rfl rfl rfl ?_)
  refine rw_t 7 rfl rfl rfl (n_alloc (n := 11) rfl ?_)
  refine rw_u rfl rfl (n_store_box (f := 0) rfl rfl rfl (Nat.le_of_ble_eq_true rfl) rfl ?_)
  refine rw_nil ?_
  refine w_seq ?_
  refine w_region ?_
  refine rw_t 52 rfl rfl rfl (do_makefunc rfl rfl ?_)
  refine rw_t 8 rfl rfl rfl (do_assign rfl ?_)
  refine rw_nil ?_
  refine w_seq ?_
  refine w_seq ?_
  refine w_region ?_
  refine rw_t 53 rfl rfl rfl (do_fieldaddr rfl ?_)
  refine rw_t 54 rfl rfl rfl (do_load_box rfl rfl rfl ?_)
  refine rw_t 55 rfl rfl rfl (do_len rfl ?_)
  refine rw_t 56 rfl rfl rfl (do_move rfl ?_)
  refine rw_nil ?_
  refine w_block ?_
  refine n_capB 4 4 rfl rfl ?_
  refine n_capB 4 5 rfl rfl ?_
  refine n_capB 4 6 rfl rfl ?_
  refine n_capB 4 7 rfl rfl ?_
  refine n_capB 4 8 rfl rfl ?_
  refine w_loopS (ι := Nat) (fun i => [(2, .ptr 2 0 0), (3, .val (.int .i64 0)), (5, .ptr 4 0 0), (8, .func 79 [] [.ptr 11 0 0, .ptr 4 0 0]), (54, .slc 0 0 n.arcs.length none), (55, .val (.int .i64 ((n.arcs.length : Nat) : Int))), (56, .val (.int .i64 ((i : Nat) : Int)))]) (fun i => [SO.arcs false n.arcs, .box [.val (.int .i64 n.N), .val (.int .i64 n.S), .val (.int .i64 n.T), .slc 0 0 n.arcs.length none], .box [.val (.int .i64 0), .val (.int .i64 0), .val (.int .i64 0), .val (.slice none 0 0), .val (.slice none 0 0), .val (.slice none 0 0), .val (.slice none 0 0), .val (.slice none 0 0), .val (.slice none 0 0)], SO.ints true .i64 ((makeC n).First), .box [.val (.int .i64 n.N), .val (.int .i64 n.S), .val (.int .i64 n.T), .slc 3 0 ((makeC n).First.length) none, .slc 5 0 ((rows n).length) none, .slc 6 0 ((rows n).length) none, .slc 7 0 ((rows n).length) none, .slc 8 0 ((rows n).length) none, .slc 9 0 ((rows n).length) none], SO.ints true .i64 (colL n 0 (fun _ r => r.hd) i), SO.ints true .i64 (colL n 0 (revF n) i), SO.ints true .i64 (colL n 0 (fun _ r => r.cap) i), SO.ints true .i64 (colL n 0 (fun _ r => r.arc) i), SO.bools true (colL n false (fun _ r => r.back) i), SO.ints true .i64 (nxtL n i), .box [.slc 10 0 (((makeC n).First).length) none]]) (fun i => n.arcs.length - i) (fun i => i ≤ n.arcs.length) (0) [0, 1, 2, 3, 4, 5, 6, 7, 8, 9, 10, 11] (by simp) ⟨shR rfl, shR rfl, shR rfl, shR rfl, shR rfl, .inr ⟨_, rfl, .inl (congrArg (SO.ints true .i64) (colL_zero h _ _))⟩, .inr ⟨_, rfl, .inl (congrArg (SO.ints true .i64) (colL_zero h _ _))⟩, .inr ⟨_, rfl, .inl (congrArg (SO.ints true .i64) (colL_zero h _ _))⟩, .inr ⟨_, rfl, .inl (congrArg (SO.ints true .i64) (colL_zero h _ _))⟩, .inr ⟨_, rfl, .inl (congrArg (SO.bools true) (colL_zero h _ _))⟩, .inr ⟨_, rfl, .inl (congrArg (SO.ints true .i64) (nxtL_zero n))⟩, shR rfl, trivial⟩ rfl (pre_ok rfl) hρ ⟨⟨_, rfl, rfl⟩, ⟨_, rfl, rfl⟩, ⟨_, rfl, rfl⟩, ⟨_, rfl, rfl⟩, ⟨_, rfl, rfl⟩, ⟨_, rfl, rfl⟩, ⟨_, rfl, rfl⟩, trivial⟩ ?_
  intro i hi
  refine w_seq ?_
  refine w_region ?_
  refine rw_t 57 rfl rfl rfl (do_bin rfl rfl rfl ?_)
  refine rw_nil ?_
  refine w_seq ?_
  refine w_cond rfl (fun hc2 => ?_) (fun hc2 => ?_)
  all_goals try simp only [bs] at hc2
  rotate_left
  · refine w_exit ?_
    refine w_seq ?_
    refine w_region ?_
    refine rw_t 93 rfl rfl rfl (n_load_boxagg [_, _, _, _, _, _, _, _, _] rfl rfl (Nat.le_of_ble_eq_true rfl) rfl ?_)
    refine rw_u rfl rfl (n_store_whole rfl rfl rfl rfl rfl rfl ?_)
    refine rw_t 3 rfl rfl rfl (do_assign rfl ?_)
    refine rw_nil ?_
    obtain rfl : i = n.arcs.length := by omega
    have e1 : (makeC n).Head.length = (rows n).length := make_head n
    have e2 : (makeC n).Rev.length = (rows n).length := revOf_one h (Nat.le_refl _)
    have e3 : (makeC n).Cap.length = (rows n).length := by simp [makeC]
    have e4 : (makeC n).Arc.length = (rows n).length := by simp [makeC]
    have e5 : (makeC n).Back.length = (rows n).length := by simp [makeC]
    refine w_ret ?_
    exact ret_eq (.inl rfl) (.cons (res_agg rfl rfl (Nat.le_of_ble_eq_true rfl)) (.cons (res_tmp rfl) .nil)) [0, 3, 5, 6, 7, 8, 9] (by rw [e1, e2, e3, e4, e5]; rfl) ⟨shR rfl, shR rfl, .inr ⟨_, rfl, .inl (congrArg (SO.ints true .i64) ((col_hd h).symm))⟩, .inr ⟨_, rfl, .inl (congrArg (SO.ints true .i64) ((col_rev h).symm))⟩, .inr ⟨_, rfl, .inl (congrArg (SO.ints true .i64) ((col_cap h).symm))⟩, .inr ⟨_, rfl, .inl (congrArg (SO.ints true .i64) ((col_arc h).symm))⟩, .inr ⟨_, rfl, .inl (congrArg (SO.bools true) ((col_back h).symm))⟩, trivial⟩ rfl (pre_ok rfl)
  refine w_skip ?_
  refine w_seq ?_
  refine w_block ?_
  refine w_seq ?_
  refine w_region ?_
  refine rw_t 58 rfl rfl rfl (do_move rfl ?_)
  refine rw_t 59 rfl rfl rfl (do_ixn rfl rfl rfl (by first | omega | (simp only [ls] <;> omega)) ?_)
  refine rw_t 60 rfl rfl rfl (n_load_arragg [_, _, _] rfl rfl rfl (by first | omega | (simp only [ls] <;> omega)) rfl ?_)
  refine rw_t 10 rfl rfl rfl (n_alloc (n := 12) rfl ?_)
  refine rw_t 9 rfl rfl rfl (do_assign rfl ?_)
  refine rw_u rfl rfl (n_store_whole rfl rfl rfl rfl rfl rfl ?_)
  refine rw_nil ?_
  refine w_seq ?_
  refine w_seq ?_
  have ha := h.arc (show i < n.arcs.length by omega)
  have hnl := nxtL_len n i
  refine w_region ?_
  refine rw_t 61 rfl rfl rfl (do_fieldaddr rfl ?_)
  refine rw_t 62 rfl rfl rfl (do_load_box rfl rfl rfl ?_)
  refine rw_t 63 rfl rfl rfl (do_fieldaddr rfl ?_)
  refine rw_t 64 rfl rfl rfl (do_load_box rfl rfl rfl ?_)
  refine rw_t 65 rfl rfl rfl (do_bin rfl rfl rfl ?_)
  refine rw_nil ?_
  refine w_cond rfl (fun hc3 => ?_) (fun hc3 => ?_)
  all_goals try simp only [bs] at hc3
  · refine w_exit ?_
    refine w_region ?_
    refine rw_t 92 rfl rfl rfl (do_add rfl rfl (by omega) ?_)
    refine rw_t 56 rfl rfl rfl (do_move rfl ?_)
    refine rw_nil ?_
    refine ⟨i + 1, [0, 1, 2, 3, 4, 5, 6, 7, 8, 9, 10, 11], by dsimp only; omega, by omega, ⟨shR rfl, shR rfl, shR rfl, shR rfl, shR rfl, .inr ⟨_, rfl, .inl (congrArg (SO.ints true .i64) (colL_same h (by omega)))⟩, .inr ⟨_, rfl, .inl (congrArg (SO.ints true .i64) (colL_same h (by omega)))⟩, .inr ⟨_, rfl, .inl (congrArg (SO.ints true .i64) (colL_same h (by omega)))⟩, .inr ⟨_, rfl, .inl (congrArg (SO.ints true .i64) (colL_same h (by omega)))⟩, .inr ⟨_, rfl, .inl (congrArg (SO.bools true) (colL_same h (by omega)))⟩, .inr ⟨_, rfl, .inl (congrArg (SO.ints true .i64) (nxtL_same (by omega)))⟩, shR rfl, trivial⟩, rfl, pre_ok rfl, ⟨⟨_, rfl, rfl⟩, ⟨_, rfl, rfl⟩, ⟨_, rfl, rfl⟩, ⟨_, rfl, rfl⟩, ⟨_, rfl, rfl⟩, ⟨_, rfl, rfl⟩, ⟨_, rfl, rfl⟩, trivial⟩⟩
  refine w_skip ?_
  refine w_seq ?_
  have hne : (n.arcs.getD i Arc.none).frm ≠ (n.arcs.getD i Arc.none).to := by omega
  have hF := row_frm h (show i < n.arcs.length by omega) hne
  have hT := row_to h (show i < n.arcs.length by omega) hne
  have hgF : (nxtL n i).getD (n.arcs.getD i Arc.none).frm.toNat 0 = nxtJ n i (n.arcs.getD i Arc.none).frm.toNat := tab_get _ _ (by omega)
  have hgT : (nxtL n i).getD (n.arcs.getD i Arc.none).to.toNat 0 = nxtJ n i (n.arcs.getD i Arc.none).to.toNat := tab_get _ _ (by omega)
  have hgT2 : ((nxtL n i).set (n.arcs.getD i Arc.none).frm.toNat ((nxtL n i).getD (n.arcs.getD i Arc.none).frm.toNat 0 + 1)).getD (n.arcs.getD i Arc.none).to.toNat 0 = nxtJ n i (n.arcs.getD i Arc.none).to.toNat := (lget_ne (by omega) _).trans hgT
  have hcr : (colL n 0 (revF n) i).length = (rows n).length := colL_len _ _ _ _
  have hbF : 0 ≤ (nxtL n i).getD (n.arcs.getD i Arc.none).frm.toNat 0 ∧ (nxtL n i).getD (n.arcs.getD i Arc.none).frm.toNat 0 < ((rows n).length : Int) := by rw [hgF]; exact hF.1
  have hbT : 0 ≤ ((nxtL n i).set (n.arcs.getD i Arc.none).frm.toNat ((nxtL n i).getD (n.arcs.getD i Arc.none).frm.toNat 0 + 1)).getD (n.arcs.getD i Arc.none).to.toNat 0 ∧ ((nxtL n i).set (n.arcs.getD i Arc.none).frm.toNat ((nxtL n i).getD (n.arcs.getD i Arc.none).frm.toNat 0 + 1)).getD (n.arcs.getD i Arc.none).to.toNat 0 < ((rows n).length : Int) := by rw [hgT2]; exact hT.1
  have hcb : (colL n false (fun _ r => r.back) i).length = (rows n).length := colL_len _ _ _ _
  refine w_region ?_
  refine rw_t 66 rfl rfl rfl (do_move rfl ?_)
  refine rw_t 67 rfl rfl rfl (do_fieldaddr rfl ?_)
  refine rw_t 68 rfl rfl rfl (do_load_box rfl rfl rfl ?_)
  refine rw_t 69 rfl rfl rfl (do_fieldaddr rfl ?_)
  refine rw_t 70 rfl rfl rfl (do_load_box rfl rfl rfl ?_)
  refine rw_t 71 rfl rfl rfl (do_fieldaddr rfl ?_)
  refine rw_t 72 rfl rfl rfl (do_load_box rfl rfl rfl ?_)
  refine rw_t 73 rfl rfl rfl (do_move rfl ?_)
  refine rw_t 74 rfl rfl rfl (n_callW (X' := .val (.int .i64 ((nxtL n i).getD ((n.arcs.getD i Arc.none).frm).toNat 0))) (H' := [SO.arcs false n.arcs, .box [.val (.int .i64 n.N), .val (.int .i64 n.S), .val (.int .i64 n.T), .slc 0 0 n.arcs.length none], .box [.val (.int .i64 0), .val (.int .i64 0), .val (.int .i64 0), .val (.slice none 0 0), .val (.slice none 0 0), .val (.slice none 0 0), .val (.slice none 0 0), .val (.slice none 0 0), .val (.slice none 0 0)], SO.ints true .i64 ((makeC n).First), .box [.val (.int .i64 n.N), .val (.int .i64 n.S), .val (.int .i64 n.T), .slc 3 0 ((makeC n).First.length) none, .slc 5 0 ((rows n).length) none, .slc 6 0 ((rows n).length) none, .slc 7 0 ((rows n).length) none, .slc 8 0 ((rows n).length) none, .slc 9 0 ((rows n).length) none], SO.ints true .i64 ((colL n 0 (fun _ r => r.hd) i).set ((nxtL n i).getD ((n.arcs.getD i Arc.none).frm).toNat 0).toNat ((n.arcs.getD i Arc.none).to)), SO.ints true .i64 (colL n 0 (revF n) i), SO.ints true .i64 ((colL n 0 (fun _ r => r.cap) i).set ((nxtL n i).getD ((n.arcs.getD i Arc.none).frm).toNat 0).toNat ((n.arcs.getD i Arc.none).cap)), SO.ints true .i64 ((colL n 0 (fun _ r => r.arc) i).set ((nxtL n i).getD ((n.arcs.getD i Arc.none).frm).toNat 0).toNat ((i : Nat) : Int)), SO.bools true ((colL n false (fun _ r => r.back) i).set ((nxtL n i).getD ((n.arcs.getD i Arc.none).frm).toNat 0).toNat false), SO.ints true .i64 ((nxtL n i).set ((n.arcs.getD i Arc.none).frm).toNat (((nxtL n i).getD ((n.arcs.getD i Arc.none).frm).toNat 0) + 1)), .box [.slc 10 0 (((makeC n).First).length) none], .box [.val (.int .i64 ((n.arcs.getD i Arc.none).frm)), .val (.int .i64 ((n.arcs.getD i Arc.none).to)), .val (.int .i64 ((n.arcs.getD i Arc.none).cap))]]) rfl rfl (t_put (c0 := n.N) (c1 := n.S) (c2 := n.T) (nx := (nxtL n i)) (fi := (makeC n).First) (hd := (colL n 0 (fun _ r => r.hd) i)) (rv := (colL n 0 (revF n) i)) (cp := (colL n 0 (fun _ r => r.cap) i)) (ak := (colL n 0 (fun _ r => r.arc) i)) (bk := (colL n false (fun _ r => r.back) i)) (u := (n.arcs.getD i Arc.none).frm) (to := (n.arcs.getD i Arc.none).to) (most := (n.arcs.getD i Arc.none).cap) (arc := ((i : Nat) : Int)) (b := false) (nl := (makeC n).First.length) (lf := (makeC n).First.length) (lh := (rows n).length) (lr := (rows n).length) (lc := (rows n).length) (la := (rows n).length) (lb := (rows n).length) (⟨by simp only [ls, first_len, nxtL_len, colL_len], ⟨⟨by simp only [ls, colL_len], by simp only [ls, colL_len]⟩, by simp only [ls, colL_len], by simp only [ls, colL_len]⟩⟩) (by simp only [ls, nxtL_len]; omega) (by rw [hgF]; simp only [ls, colL_len]; omega) (by simp only [ls, colL_len, and_self]) (by simp only [ls, colL_len]; omega)) [11, 10, 4, 3, 5, 6, 7, 8, 9] ⟨shR rfl, shR rfl, shR rfl, shR rfl, shR rfl, shR rfl, shR rfl, shR rfl, shR rfl, trivial⟩ rfl rfl ⟨fun h => .inl rfl, ⟨fun h => .inl rfl, ⟨fun h => .inl rfl, ⟨fun h => .inl rfl, ⟨fun h => .inl rfl, ⟨fun h => .inl rfl, ⟨fun h => .inl rfl, ⟨fun h => .inl rfl, ⟨fun h => .inl rfl, (fun y hy => by simp at hy)⟩⟩⟩⟩⟩⟩⟩⟩⟩ rfl rfl ?_)
  refine rw_t 11 rfl rfl rfl (do_assign rfl ?_)
  refine rw_nil ?_
  refine w_seq ?_
  refine w_region ?_
  refine rw_t 75 rfl rfl rfl (do_move rfl ?_)
  refine rw_t 76 rfl rfl rfl (do_fieldaddr rfl ?_)
  refine rw_t 77 rfl rfl rfl (do_load_box rfl rfl rfl ?_)
  refine rw_t 78 rfl rfl rfl (do_fieldaddr rfl ?_)
  refine rw_t 79 rfl rfl rfl (do_load_box rfl rfl rfl ?_)
  refine rw_t 80 rfl rfl rfl (do_move rfl ?_)
  refine rw_t 81 rfl rfl rfl (n_callW (X' := .val (.int .i64 (((nxtL n i).set ((n.arcs.getD i Arc.none).frm).toNat (((nxtL n i).getD ((n.arcs.getD i Arc.none).frm).toNat 0) + 1)).getD ((n.arcs.getD i Arc.none).to).toNat 0))) (H' := [SO.arcs false n.arcs, .box [.val (.int .i64 n.N), .val (.int .i64 n.S), .val (.int .i64 n.T), .slc 0 0 n.arcs.length none], .box [.val (.int .i64 0), .val (.int .i64 0), .val (.int .i64 0), .val (.slice none 0 0), .val (.slice none 0 0), .val (.slice none 0 0), .val (.slice none 0 0), .val (.slice none 0 0), .val (.slice none 0 0)], SO.ints true .i64 ((makeC n).First), .box [.val (.int .i64 n.N), .val (.int .i64 n.S), .val (.int .i64 n.T), .slc 3 0 ((makeC n).First.length) none, .slc 5 0 ((rows n).length) none, .slc 6 0 ((rows n).length) none, .slc 7 0 ((rows n).length) none, .slc 8 0 ((rows n).length) none, .slc 9 0 ((rows n).length) none], SO.ints true .i64 (((colL n 0 (fun _ r => r.hd) i).set ((nxtL n i).getD ((n.arcs.getD i Arc.none).frm).toNat 0).toNat ((n.arcs.getD i Arc.none).to)).set (((nxtL n i).set ((n.arcs.getD i Arc.none).frm).toNat (((nxtL n i).getD ((n.arcs.getD i Arc.none).frm).toNat 0) + 1)).getD ((n.arcs.getD i Arc.none).to).toNat 0).toNat ((n.arcs.getD i Arc.none).frm)), SO.ints true .i64 (colL n 0 (revF n) i), SO.ints true .i64 (((colL n 0 (fun _ r => r.cap) i).set ((nxtL n i).getD ((n.arcs.getD i Arc.none).frm).toNat 0).toNat ((n.arcs.getD i Arc.none).cap)).set (((nxtL n i).set ((n.arcs.getD i Arc.none).frm).toNat (((nxtL n i).getD ((n.arcs.getD i Arc.none).frm).toNat 0) + 1)).getD ((n.arcs.getD i Arc.none).to).toNat 0).toNat 0), SO.ints true .i64 (((colL n 0 (fun _ r => r.arc) i).set ((nxtL n i).getD ((n.arcs.getD i Arc.none).frm).toNat 0).toNat ((i : Nat) : Int)).set (((nxtL n i).set ((n.arcs.getD i Arc.none).frm).toNat (((nxtL n i).getD ((n.arcs.getD i Arc.none).frm).toNat 0) + 1)).getD ((n.arcs.getD i Arc.none).to).toNat 0).toNat ((i : Nat) : Int)), SO.bools true (((colL n false (fun _ r => r.back) i).set ((nxtL n i).getD ((n.arcs.getD i Arc.none).frm).toNat 0).toNat false).set (((nxtL n i).set ((n.arcs.getD i Arc.none).frm).toNat (((nxtL n i).getD ((n.arcs.getD i Arc.none).frm).toNat 0) + 1)).getD ((n.arcs.getD i Arc.none).to).toNat 0).toNat true), SO.ints true .i64 (((nxtL n i).set ((n.arcs.getD i Arc.none).frm).toNat (((nxtL n i).getD ((n.arcs.getD i Arc.none).frm).toNat 0) + 1)).set ((n.arcs.getD i Arc.none).to).toNat ((((nxtL n i).set ((n.arcs.getD i Arc.none).frm).toNat (((nxtL n i).getD ((n.arcs.getD i Arc.none).frm).toNat 0) + 1)).getD ((n.arcs.getD i Arc.none).to).toNat 0) + 1)), .box [.slc 10 0 (((makeC n).First).length) none], .box [.val (.int .i64 ((n.arcs.getD i Arc.none).frm)), .val (.int .i64 ((n.arcs.getD i Arc.none).to)), .val (.int .i64 ((n.arcs.getD i Arc.none).cap))]]) rfl rfl (t_put (c0 := n.N) (c1 := n.S) (c2 := n.T) (nx := (nxtL n i).set ((n.arcs.getD i Arc.none).frm).toNat (((nxtL n i).getD ((n.arcs.getD i Arc.none).frm).toNat 0) + 1)) (fi := (makeC n).First) (hd := (colL n 0 (fun _ r => r.hd) i).set ((nxtL n i).getD ((n.arcs.getD i Arc.none).frm).toNat 0).toNat ((n.arcs.getD i Arc.none).to)) (rv := (colL n 0 (revF n) i)) (cp := (colL n 0 (fun _ r => r.cap) i).set ((nxtL n i).getD ((n.arcs.getD i Arc.none).frm).toNat 0).toNat ((n.arcs.getD i Arc.none).cap)) (ak := (colL n 0 (fun _ r => r.arc) i).set ((nxtL n i).getD ((n.arcs.getD i Arc.none).frm).toNat 0).toNat ((i : Nat) : Int)) (bk := (colL n false (fun _ r => r.back) i).set ((nxtL n i).getD ((n.arcs.getD i Arc.none).frm).toNat 0).toNat false) (u := (n.arcs.getD i Arc.none).to) (to := (n.arcs.getD i Arc.none).frm) (most := 0) (arc := ((i : Nat) : Int)) (b := true) (nl := (makeC n).First.length) (lf := (makeC n).First.length) (lh := (rows n).length) (lr := (rows n).length) (lc := (rows n).length) (la := (rows n).length) (lb := (rows n).length) (⟨by simp only [ls, first_len, nxtL_len, colL_len], ⟨⟨by simp only [ls, colL_len], by simp only [ls, colL_len]⟩, by simp only [ls, colL_len], by simp only [ls, colL_len]⟩⟩) (by simp only [ls, nxtL_len]; omega) (by rw [hgT2]; simp only [ls, colL_len]; omega) (by simp only [ls, colL_len, and_self]) (by simp only [ls, colL_len]; omega)) [11, 10, 4, 3, 5, 6, 7, 8, 9] ⟨shR rfl, shR rfl, shR rfl, shR rfl, shR rfl, shR rfl, shR rfl, shR rfl, shR rfl, trivial⟩ rfl rfl ⟨fun h => .inl rfl, ⟨fun h => .inl rfl, ⟨fun h => .inl rfl, ⟨fun h => .inl rfl, ⟨fun h => .inl rfl, ⟨fun h => .inl rfl, ⟨fun h => .inl rfl, ⟨fun h => .inl rfl, ⟨fun h => .inl rfl, (fun y hy => by simp at hy)⟩⟩⟩⟩⟩⟩⟩⟩⟩ rfl rfl ?_)
  refine rw_t 12 rfl rfl rfl (do_assign rfl ?_)
  refine rw_nil ?_
  refine wb_draw mixed [0, 1, 0, 0, 8, 0, 0, 0, 71, 327] [1023, 2047] [(9, 6, SO.ints true .i64 ((colL n 0 (revF n) i).set (((nxtL n i).getD ((n.arcs.getD i Arc.none).frm).toNat 0).toNat) (((nxtL n i).set ((n.arcs.getD i Arc.none).frm).toNat (((nxtL n i).getD ((n.arcs.getD i Arc.none).frm).toNat 0) + 1)).getD ((n.arcs.getD i Arc.none).to).toNat 0)))] (by kernel_rfl) (by kernel_rfl) rfl rfl rfl rfl rfl (hle hρ rfl) ?_
  refine rb_q 0 rfl rfl rfl rfl rfl rfl (do_fieldaddr rfl ⟨rfl, rfl⟩) (by rfl) ?_
  refine rb_q 1 rfl rfl rfl rfl rfl rfl (do_load_box rfl rfl rfl ⟨rfl, rfl⟩) (by rfl) ?_
  refine rb_q 2 rfl rfl rfl rfl rfl rfl (do_move rfl ⟨rfl, rfl⟩) (by rfl) ?_
  refine rb_q 3 rfl rfl rfl rfl rfl rfl (do_fieldaddr rfl ⟨rfl, rfl⟩) (by rfl) ?_
  refine rb_q 4 rfl rfl rfl rfl rfl rfl (do_load_box rfl rfl rfl ⟨rfl, rfl⟩) (by rfl) ?_
  refine rb_q 5 rfl rfl rfl rfl rfl rfl (do_move rfl ⟨rfl, rfl⟩) (by rfl) ?_
  refine rb_q 6 rfl rfl rfl rfl rfl rfl (do_move rfl ⟨rfl, rfl⟩) (by rfl) ?_
  refine rb_q 7 rfl rfl rfl rfl rfl rfl (do_move rfl ⟨rfl, rfl⟩) (by rfl) ?_
  refine rb_q 8 rfl rfl rfl rfl rfl rfl (do_ix0 rfl rfl rfl (by first | omega | (simp only [ls] <;> omega)) ⟨rfl, rfl⟩) (by rfl) ?_
  refine rb_w 9 0 6 rfl rfl rfl trivial rfl rfl rfl rfl rfl (do_store_arr (z := (((nxtL n i).set ((n.arcs.getD i Arc.none).frm).toNat (((nxtL n i).getD ((n.arcs.getD i Arc.none).frm).toNat 0) + 1)).getD ((n.arcs.getD i Arc.none).to).toNat 0)) rfl rfl rfl (by first | omega | (simp only [ls] <;> omega)) rfl (by decide) rfl ⟨rfl, rfl⟩) (by rfl) ?_
  refine rb_done (HB := [SO.arcs false n.arcs, .box [.val (.int .i64 n.N), .val (.int .i64 n.S), .val (.int .i64 n.T), .slc 0 0 n.arcs.length none], .box [.val (.int .i64 0), .val (.int .i64 0), .val (.int .i64 0), .val (.slice none 0 0), .val (.slice none 0 0), .val (.slice none 0 0), .val (.slice none 0 0), .val (.slice none 0 0), .val (.slice none 0 0)], SO.ints true .i64 ((makeC n).First), .box [.val (.int .i64 n.N), .val (.int .i64 n.S), .val (.int .i64 n.T), .slc 3 0 ((makeC n).First.length) none, .slc 5 0 ((rows n).length) none, .slc 6 0 ((rows n).length) none, .slc 7 0 ((rows n).length) none, .slc 8 0 ((rows n).length) none, .slc 9 0 ((rows n).length) none], SO.ints true .i64 (((colL n 0 (fun _ r => r.hd) i).set ((nxtL n i).getD ((n.arcs.getD i Arc.none).frm).toNat 0).toNat ((n.arcs.getD i Arc.none).to)).set (((nxtL n i).set ((n.arcs.getD i Arc.none).frm).toNat (((nxtL n i).getD ((n.arcs.getD i Arc.none).frm).toNat 0) + 1)).getD ((n.arcs.getD i Arc.none).to).toNat 0).toNat ((n.arcs.getD i Arc.none).frm)), SO.ints true .i64 ((colL n 0 (revF n) i).set (((nxtL n i).getD ((n.arcs.getD i Arc.none).frm).toNat 0).toNat) (((nxtL n i).set ((n.arcs.getD i Arc.none).frm).toNat (((nxtL n i).getD ((n.arcs.getD i Arc.none).frm).toNat 0) + 1)).getD ((n.arcs.getD i Arc.none).to).toNat 0)), SO.ints true .i64 (((colL n 0 (fun _ r => r.cap) i).set ((nxtL n i).getD ((n.arcs.getD i Arc.none).frm).toNat 0).toNat ((n.arcs.getD i Arc.none).cap)).set (((nxtL n i).set ((n.arcs.getD i Arc.none).frm).toNat (((nxtL n i).getD ((n.arcs.getD i Arc.none).frm).toNat 0) + 1)).getD ((n.arcs.getD i Arc.none).to).toNat 0).toNat 0), SO.ints true .i64 (((colL n 0 (fun _ r => r.arc) i).set ((nxtL n i).getD ((n.arcs.getD i Arc.none).frm).toNat 0).toNat ((i : Nat) : Int)).set (((nxtL n i).set ((n.arcs.getD i Arc.none).frm).toNat (((nxtL n i).getD ((n.arcs.getD i Arc.none).frm).toNat 0) + 1)).getD ((n.arcs.getD i Arc.none).to).toNat 0).toNat ((i : Nat) : Int)), SO.bools true (((colL n false (fun _ r => r.back) i).set ((nxtL n i).getD ((n.arcs.getD i Arc.none).frm).toNat 0).toNat false).set (((nxtL n i).set ((n.arcs.getD i Arc.none).frm).toNat (((nxtL n i).getD ((n.arcs.getD i Arc.none).frm).toNat 0) + 1)).getD ((n.arcs.getD i Arc.none).to).toNat 0).toNat true), SO.ints true .i64 (((nxtL n i).set ((n.arcs.getD i Arc.none).frm).toNat (((nxtL n i).getD ((n.arcs.getD i Arc.none).frm).toNat 0) + 1)).set ((n.arcs.getD i Arc.none).to).toNat ((((nxtL n i).set ((n.arcs.getD i Arc.none).frm).toNat (((nxtL n i).getD ((n.arcs.getD i Arc.none).frm).toNat 0) + 1)).getD ((n.arcs.getD i Arc.none).to).toNat 0) + 1)), .box [.slc 10 0 (((makeC n).First).length) none], .box [.val (.int .i64 ((n.arcs.getD i Arc.none).frm)), .val (.int .i64 ((n.arcs.getD i Arc.none).to)), .val (.int .i64 ((n.arcs.getD i Arc.none).cap))]]) rfl ?_
  refine rw_t 91 rfl rfl rfl (do_ix0 rfl rfl rfl (by first | omega | (simp only [ls] <;> omega)) ?_)
  refine rw_u rfl rfl (n_store_arr (z := ((nxtL n i).getD ((n.arcs.getD i Arc.none).frm).toNat 0)) rfl rfl rfl (by first | omega | (simp only [ls] <;> omega)) rfl (by decide) rfl ?_)
  refine rw_nil ?_
  refine w_region ?_
  refine rw_t 92 rfl rfl rfl (do_add rfl rfl (by omega) ?_)
  refine rw_t 56 rfl rfl rfl (do_move rfl ?_)
  refine rw_nil ?_
  have hRi : (makeC n).Rev.getD (nxtJ n i (n.arcs.getD i Arc.none).frm.toNat).toNat 0 = nxtJ n i (n.arcs.getD i Arc.none).to.toNat := (rev_pair h (by omega) (j := (nxtJ n i (n.arcs.getD i Arc.none).to.toNat).toNat) (by omega) (by rw [hF.2, hT.2]) (by rw [hF.2, hT.2]; rfl)).trans (by omega)
  have hRj : (makeC n).Rev.getD (nxtJ n i (n.arcs.getD i Arc.none).to.toNat).toNat 0 = nxtJ n i (n.arcs.getD i Arc.none).frm.toNat := (rev_pair h (by omega) (j := (nxtJ n i (n.arcs.getD i Arc.none).frm.toNat).toNat) (by omega) (by rw [hF.2, hT.2]) (by rw [hF.2, hT.2]; rfl)).trans (by omega)
  refine ⟨i + 1, [0, 1, 2, 3, 4, 5, 6, 7, 8, 9, 10, 11], by dsimp only; omega, by omega, ⟨shR rfl, shR rfl, shR rfl, shR rfl, shR rfl, .inr ⟨_, rfl, .inl (congrArg (SO.ints true .i64) (colL_step h (by omega) hne (by rw [hgF]) (by rw [hgT2]) rfl rfl))⟩, .inr ⟨_, rfl, .inl (congrArg (SO.ints true .i64) (colL_step h (by omega) hne (by rw [hgF]) (by rw [hgT2]) (by unfold revF; rw [hgT2, hgF, hRi]) (by unfold revF; rw [hgT2, hRj, hgF])))⟩, .inr ⟨_, rfl, .inl (congrArg (SO.ints true .i64) (colL_step h (by omega) hne (by rw [hgF]) (by rw [hgT2]) rfl rfl))⟩, .inr ⟨_, rfl, .inl (congrArg (SO.ints true .i64) (colL_step h (by omega) hne (by rw [hgF]) (by rw [hgT2]) rfl rfl))⟩, .inr ⟨_, rfl, .inl (congrArg (SO.bools true) (colL_step h (by omega) hne (by rw [hgF]) (by rw [hgT2]) rfl rfl))⟩, .inr ⟨_, rfl, .inl (congrArg (SO.ints true .i64) (nxtL_step h (by omega) hne))⟩, shR rfl, trivial⟩, rfl, pre_ok rfl, ⟨⟨_, rfl, rfl⟩, ⟨_, rfl, rfl⟩, ⟨_, rfl, rfl⟩, ⟨_, rfl, rfl⟩, ⟨_, rfl, rfl⟩, ⟨_, rfl, rfl⟩, ⟨_, rfl, rfl⟩, trivial⟩⟩
end Go.Proofs

set_option linter.unusedVariables false
set_option linter.unusedSimpArgs false
namespace Go.Proofs
open Go Go.Sx Go.RowKit
theorem selK_mem {q : Int → Bool} {x : Int} : ∀ {k : Nat}, x ∈ selK q k → (0 ≤ x ∧ x < k) ∧ q x = true
  | 0, h => by simp [selK] at h
  | k + 1, h => by
    by_cases hq : q k = true
    · rw [selK_one hq, List.mem_append] at h
      rcases h with h | h
      · have := selK_mem h; exact ⟨by omega, this.2⟩
      · rw [List.mem_singleton] at h; subst h; exact ⟨by omega, hq⟩
    · rw [selK_none hq] at h
      have := selK_mem h; exact ⟨by omega, this.2⟩
theorem push_at {c : Csr} {p : Pre} {i : Nat} (h : i < (pushL c p).length) : (0 ≤ (pushL c p).getD i 0 ∧ (pushL c p).getD i 0 < c.Head.length) ∧ pushesP c p ((pushL c p).getD i 0) := by
  have := selK_mem (getD_mem 0 h)
  exact ⟨this.1, of_decide_eq_true this.2⟩
theorem stuck_at {c : Csr} (hn : 0 ≤ c.N) {p : Pre} {i : Nat} (h : i < (stuckL c p).length) : (0 ≤ (stuckL c p).getD i 0 ∧ (stuckL c p).getD i 0 < c.N) ∧ stuckP c p ((stuckL c p).getD i 0) := by
  have := selK_mem (getD_mem 0 h)
  unfold stuckL
  exact ⟨by omega, of_decide_eq_true this.2⟩
theorem wrap_small {x : Int} (h : 0 ≤ x ∧ x < 9223372036854775808) : IntKind.i64.wrap x = x := by
  exact in64 (by omega) (by omega)
theorem ix_in {x : Int} {n : Nat} (hx : 0 ≤ x ∧ x < 256) (hn : 0 < n) : 0 ≤ (IntKind.i64.wrap (x.tdiv 2)).tmod (n : Int) ∧ (IntKind.i64.wrap (x.tdiv 2)).tmod (n : Int) < n := by
  have h1 : x.tdiv 2 = x / 2 := Int.tdiv_eq_ediv_of_nonneg hx.1
  rw [h1, wrap_small (by omega), Int.tmod_eq_emod_of_nonneg (by omega)]
  exact ⟨Int.emod_nonneg _ (by omega), Int.emod_lt_of_pos _ (by omega)⟩
theorem step_push {c : Csr} (h : CsrG c) {p : Pre} (hp : refR c p) {a : Int} (ha : 0 ≤ a ∧ a < c.Head.length) (hq : pushesP c p a) : refR c (pushR c p a).1 := by
  unfold pushR; rw [if_pos ha, if_pos hq]; exact push_right h hp ha hq
theorem step_lift {c : Csr} (h : CsrG c) {p : Pre} (hp : refR c p) {u : Int} (hu : 0 ≤ u ∧ u < c.N) (hq : stuckP c p u) : refR c (liftR c p u).1 := by
  unfold liftR; rw [if_pos hu, if_pos hq]; exact lift_right h hp hu hq
theorem walk_push {c : Csr} (h : CsrG c) {p : Pre} (hp : refR c p) {i : Nat} (hi : i < (pushL c p).length) : refR c (pushR c p ((pushL c p).getD i 0)).1 := step_push h hp (push_at hi).1 (push_at hi).2
theorem walk_lift {c : Csr} (h : CsrG c) {p : Pre} (hp : refR c p) {i : Nat} (hi : i < (stuckL c p).length) : refR c (liftR c p ((stuckL c p).getD i 0)).1 := step_lift h hp (stuck_at (by have := h.n; omega) hi).1 (stuck_at (by have := h.n; omega) hi).2
end Go.Proofs

set_option linter.unusedVariables false
set_option linter.unusedSimpArgs false
namespace Go.Proofs
open Go Go.Sx Go.RowKit
theorem push_ok {c : Csr} {p : Pre} {i : Nat} (h : i < (pushL c p).length) : (pushR c p ((pushL c p).getD i 0)).2.2 = 0 := by
  obtain ⟨h1, h2⟩ := push_at h
  unfold pushR; rw [if_pos h1, if_pos h2]
theorem lift_ok {c : Csr} (hn : 0 ≤ c.N) {p : Pre} {i : Nat} (h : i < (stuckL c p).length) : (liftR c p ((stuckL c p).getD i 0)).2 = 0 := by
  obtain ⟨h1, h2⟩ := stuck_at hn h
  unfold liftR; rw [if_pos h1, if_pos h2]
end Go.Proofs

set_option linter.unusedVariables false
set_option linter.unusedSimpArgs false
namespace Go.Proofs
open Go Go.Sx Go.RowKit
def ixK (x : Int) (n : Nat) : Nat := ((IntKind.i64.wrap (x.tdiv 2)).tmod (n : Int)).toNat
/-- One move of Play's. -/
def stepK (c : Csr) (x : Int) (r : Pre) : Pre :=
  if 0 < (pushL c r).length ∧ (x.tmod 2 = 0 ∨ (stuckL c r).length = 0) then (pushR c r ((pushL c r).getD (ixK x (pushL c r).length) 0)).1
  else if 0 < (stuckL c r).length then (liftR c r ((stuckL c r).getD (ixK x (stuckL c r).length) 0)).1 else r
def playK (c : Csr) (l : List Int) : Nat → Pre
  | 0 => begC c
  | i + 1 => stepK c (l.getD i 0) (playK c l i)
theorem playK_push {c : Csr} {l : List Int} {i : Nat} {r : Pre} (hr : r = playK c l i) (h : 0 < (pushL c r).length ∧ ((l.getD i 0).tmod 2 = 0 ∨ (stuckL c r).length = 0)) : (pushR c r ((pushL c r).getD ((IntKind.i64.wrap ((l.getD i 0).tdiv 2)).tmod (((pushL c r).length : Nat) : Int)).toNat 0)).1 = playK c l (i + 1) := by
  subst hr; simp only [playK]; unfold stepK; rw [if_pos h]; rfl
theorem playK_lift {c : Csr} {l : List Int} {i : Nat} {r : Pre} (hr : r = playK c l i) (h : ¬ (0 < (pushL c r).length ∧ ((l.getD i 0).tmod 2 = 0 ∨ (stuckL c r).length = 0))) (h2 : 0 < (stuckL c r).length) : (liftR c r ((stuckL c r).getD ((IntKind.i64.wrap ((l.getD i 0).tdiv 2)).tmod (((stuckL c r).length : Nat) : Int)).toNat 0)).1 = playK c l (i + 1) := by
  subst hr; simp only [playK]; unfold stepK; rw [if_neg h, if_pos h2]; rfl
theorem playK_stop {c : Csr} {l : List Int} {i : Nat} (h1 : (pushL c (playK c l i)).length = 0) (h2 : (stuckL c (playK c l i)).length = 0) : ∀ j, playK c l (i + j) = playK c l i
  | 0 => rfl
  | j + 1 => by
    show stepK c (l.getD (i + j) 0) (playK c l (i + j)) = _
    rw [playK_stop h1 h2 j]
    unfold stepK
    rw [if_neg (by omega), if_neg (by omega)]
theorem playK_end {c : Csr} {l : List Int} {i m : Nat} {r : Pre} (hr : r = playK c l i) (h1 : (pushL c r).length = 0) (h2 : (stuckL c r).length = 0) (hm : i ≤ m) : r = playK c l m := by
  subst hr
  have := playK_stop h1 h2 (m - i)
  rw [show i + (m - i) = m by omega] at this
  exact this.symm
theorem playK_ref {c : Csr} (h : CsrQ c) {l : List Int} (hl : ∀ x ∈ l, 0 ≤ x ∧ x < 256) : ∀ i, i ≤ l.length → refR c (playK c l i)
  | 0, _ => beg_ref h
  | i + 1, hi => by
    have ih := playK_ref h hl i (by omega)
    have hx := hl _ (getD_mem 0 (show i < l.length by omega))
    simp only [playK]
    unfold stepK ixK
    split
    · rename_i hc
      have := ix_in hx hc.1
      exact walk_push h.toCsrG ih (by omega)
    · split
      · rename_i hc
        have := ix_in hx hc
        exact walk_lift h.toCsrG ih (by omega)
      · exact ih
end Go.Proofs

set_option linter.unusedVariables false
set_option linter.unusedSimpArgs false
namespace Go.Proofs
open Go Go.Sx Go.RowKit
/-- The moves that PreEnds makes. -/
def moreL (l : List Int) : List Int := (l.drop 0).take (Nat.min l.length 4000) ++ (List.replicate 4000 (0 : Int)).drop (Nat.min l.length 4000)
theorem moreL_len (l : List Int) : (moreL l).length = 4000 := by
  have h1 : Nat.min l.length 4000 ≤ l.length := Nat.min_le_left _ _
  have h2 : Nat.min l.length 4000 ≤ 4000 := Nat.min_le_right _ _
  unfold moreL
  rw [List.length_append, List.length_take, List.length_drop, List.length_drop, List.length_replicate]
  omega
theorem moreL_in {l : List Int} (hl : ∀ x ∈ l, 0 ≤ x ∧ x < 256) : ∀ x ∈ moreL l, 0 ≤ x ∧ x < 256 := by
  intro x hx
  unfold moreL at hx
  rcases List.mem_append.1 hx with h | h
  · exact hl x (List.mem_of_mem_drop (List.mem_of_mem_take h))
  · have := List.eq_of_mem_replicate (List.mem_of_mem_drop h)
    omega
end Go.Proofs

set_option linter.unusedVariables false
set_option linter.unusedSimpArgs false
namespace Go.Proofs
open Go Go.Sx Go.RowKit
abbrev arcN (n : Net) (k : Nat) : Arc := n.arcs.getD k Arc.none
def withinP (n : Net) (f : List Int) : Prop := f.length = n.arcs.length ∧ ∀ k : Nat, k < n.arcs.length → 0 ≤ f.getD k 0 ∧ f.getD k 0 ≤ (n.arcs.getD k Arc.none).cap
instance (n : Net) (f : List Int) : Decidable (withinP n f) := by unfold withinP; infer_instance
/-- The excesses that the first arcs make. -/
def exL (n : Net) (f : List Int) : Nat → List Int
  | 0 => List.replicate n.N.toNat 0
  | k + 1 => addAt (subAt (exL n f k) (n.arcs.getD k Arc.none).frm (f.getD k 0)) (n.arcs.getD k Arc.none).to (f.getD k 0)
theorem exL_len (n : Net) (f : List Int) : ∀ k, (exL n f k).length = n.N.toNat
  | 0 => by simp [exL]
  | k + 1 => by simp only [exL, addAt, subAt, List.length_set]; exact exL_len n f k
theorem exL_in {n : Net} (h : NetOK n) {f : List Int} (hf : withinP n f) : ∀ k, k ≤ n.arcs.length → ∀ v, -(capSum (n.arcs.take k)) ≤ (exL n f k).getD v 0 ∧ (exL n f k).getD v 0 ≤ capSum (n.arcs.take k)
  | 0, _, v => by
    have : (exL n f 0).getD v 0 = 0 := by simp only [exL, List.getD, List.getElem?_replicate]; split <;> rfl
    rw [this]; simp [capSum]
  | k + 1, hk, v => by
    have ih := exL_in h hf k (by omega)
    have ha := h.arc (show k < n.arcs.length by omega)
    have hl := exL_len n f k
    have hfk := hf.2 k (by omega)
    rw [take_capSum (by omega)]
    simp only [exL, addAt, subAt]
    have e := two_set (l := exL n f k) (x := (n.arcs.getD k Arc.none).frm.toNat) (y := (n.arcs.getD k Arc.none).to.toNat) (by omega) (by omega) (-(f.getD k 0)) (f.getD k 0) v
    rw [show ∀ A d : Int, A - d = A + -d from fun A d => by omega, e]
    have := ih v
    split <;> split <;> omega
def excR (n : Net) (f : List Int) : List Int × Int := if withinP n f then (exL n f n.arcs.length, 0) else ([], 20)
def zeroP (n : Net) (f : List Int) (a b : Int) : Prop := withinP n f ∧ ∀ v : Nat, v < n.N.toNat → (exL n f n.arcs.length).getD v 0 = 0 ∨ (v : Int) = a ∨ (v : Int) = b
instance (n : Net) (f : List Int) (a b : Int) : Decidable (zeroP n f a b) := by unfold zeroP; infer_instance
def valR (n : Net) (f : List Int) : Int × Int := if zeroP n f n.S n.T then ((exL n f n.arcs.length).getD n.T.toNat 0, 0) else (0, 20)
theorem lget_at' {l : List Int} {i : Nat} (h : i < l.length) (x : Int) : (l.set i x).getD i 0 = x := by simp [List.getD, h]
def eqQ (x y : Int) : Bool := decide (x = y)
theorem idx_two {x a b : Int} : ¬ (idxI (eqQ x) [a, b] ≥ 0) ↔ ¬ x = a ∧ ¬ x = b := by
  rw [idx_neg]
  constructor
  · intro q
    have h0 := q 0 (by simp)
    have h1 := q 1 (by simp)
    simp only [eqQ, decide_eq_false_iff_not] at h0 h1
    exact ⟨h0, h1⟩
  · rintro ⟨h0, h1⟩ k hk
    simp only [eqQ, decide_eq_false_iff_not]
    match k, hk with
    | 0, _ => exact h0
    | 1, _ => exact h1
    | k + 2, hk => simp at hk; omega
theorem exc_pos {n : Net} {f : List Int} (h : withinP n f) : excR n f = (exL n f n.arcs.length, 0) := by unfold excR; rw [if_pos h]
theorem exc_neg {n : Net} {f : List Int} (h : ¬ withinP n f) : excR n f = ([], 20) := by unfold excR; rw [if_neg h]
theorem exc_len {n : Net} {f : List Int} : (excR n f).1.length ≤ n.N.toNat := by
  by_cases h : withinP n f
  · rw [exc_pos h]; exact Nat.le_of_eq (exL_len _ _ _)
  · rw [exc_neg h]; simp
theorem zero_end {n : Net} {f : List Int} {a b : Int} (h : ∀ v : Nat, v < (excR n f).1.length → (excR n f).1.getD v 0 = 0 ∨ (v : Int) = a ∨ (v : Int) = b) : decide (zeroP n f a b) = ((excR n f).2 == 0) := by
  by_cases hw : withinP n f
  · rw [exc_pos hw] at h ⊢
    exact decide_eq_true ⟨hw, fun v hv => h v (by rw [exL_len]; exact hv)⟩
  · rw [exc_neg hw]
    exact decide_eq_false (fun q => hw q.1)
theorem zero_not {n : Net} {f : List Int} {a b : Int} {v : Nat} (hv : v < (excR n f).1.length) (hx : ¬ (excR n f).1.getD v 0 = 0) (ha : ¬ (v : Int) = a ∧ ¬ (v : Int) = b) : ¬ zeroP n f a b := fun q => by
  rw [exc_pos q.1] at hv hx
  rw [exL_len] at hv
  rcases q.2 v hv with e | e | e
  · exact hx e
  · exact ha.1 e
  · exact ha.2 e
theorem val_pos {n : Net} {f : List Int} (h : zeroP n f n.S n.T) : valR n f = ((excR n f).1.getD n.T.toNat 0, (excR n f).2) := by unfold valR; rw [if_pos h, exc_pos h.1]
theorem val_neg {n : Net} {f : List Int} (h : ¬ zeroP n f n.S n.T) : valR n f = (0, 20) := by unfold valR; rw [if_neg h]
set_option maxHeartbeats 8000000 in
set_option synthInstance.maxHeartbeats 400000 in
set_option synthInstance.maxSize 2000 in
theorem t_Within (n : Net) (h : NetOK n) (f : List Int) (hl : f.length ≤ 9223372036854775807) : Tri Try.prog 72 [.agg [.val (.int .i64 n.N), .val (.int .i64 n.S), .val (.int .i64 n.T), .slc 0 0 n.arcs.length none], .slc 1 0 f.length none] [SO.arcs false n.arcs, SO.ints false .i64 f] (fun s H => s = .val (.bool (decide (withinP n f))) ∧ H = [SO.arcs false n.arcs, SO.ints false .i64 f]) := by
  refine tri_of_w (fn := Try.f72) Try.func72 rfl (by simp [Try.f72]) ?_
  intro ρ w hρ
  refine w_seq ?_
  have hm := h.many
  refine w_region ?_
  refine rw_t 2 rfl rfl rfl (n_box_agg (n := 2) rfl rfl ?_)
  refine rw_t 4 rfl rfl rfl (do_assign rfl ?_)
  refine rw_nil ?_
  refine w_seq ?_
  refine w_seq ?_
  refine w_region ?_
  refine rw_t 7 rfl rfl rfl (n_load_boxagg [_, _, _, _] rfl rfl (Nat.le_of_ble_eq_true rfl) rfl ?_)
  refine rw_t 8 rfl rfl rfl (do_callR (X' := .val (.int .i64 0)) rfl rfl (t_pCheck (n := n) (h)) [0] ⟨.inr ⟨_, rfl, srv⟩, trivial⟩ rfl rfl rfl ?_)
  refine rw_t 9 rfl rfl rfl (do_bin rfl rfl rfl ?_)
  refine rw_t 10 rfl rfl rfl (do_move rfl ?_)
  refine rw_gt 11 3 10 false rfl rfl rfl rfl rfl rfl (by decide) (do_move rfl ?_)
  refine rw_gt 12 3 10 false rfl rfl rfl rfl rfl rfl (by decide) (do_len rfl ?_)
  refine rw_gt 13 3 10 false rfl rfl rfl rfl rfl rfl (by decide) (do_fieldaddr rfl ?_)
  refine rw_gt 14 3 10 false rfl rfl rfl rfl rfl rfl (by decide) (do_load_box rfl rfl rfl ?_)
  refine rw_gt 15 3 10 false rfl rfl rfl rfl rfl rfl (by decide) (do_len rfl ?_)
  refine rw_gt 16 3 10 false rfl rfl rfl rfl rfl rfl (by decide) (do_bin rfl rfl rfl ?_)
  refine rw_t 17 rfl rfl rfl (do_pick_f rfl (by decide) rfl ?_)
  refine rw_nil ?_
  refine w_cond rfl (fun hc1 => ?_) (fun hc1 => ?_)
  all_goals try simp only [bs] at hc1
  · refine w_seq ?_
    refine w_region ?_
    refine rw_t 4 rfl rfl rfl (do_assign rfl ?_)
    refine rw_nil ?_
    refine w_ret ?_
    exact ret_eq (.inl rfl) (.cons (res_tmp rfl) .nil) [0, 1] (Eq.symm (bool_congr (decide_eq_false (fun q => by have := q.1; omega)))) ⟨shR rfl, shR rfl, trivial⟩ rfl (pre_ok rfl)
  refine w_skip ?_
  refine w_seq ?_
  refine w_seq ?_
  refine w_region ?_
  refine rw_t 18 rfl rfl rfl (do_fieldaddr rfl ?_)
  refine rw_t 19 rfl rfl rfl (do_load_box rfl rfl rfl ?_)
  refine rw_t 20 rfl rfl rfl (do_len rfl ?_)
  refine rw_t 21 rfl rfl rfl (do_move rfl ?_)
  refine rw_nil ?_
  refine w_block ?_
  refine w_loopS (ι := Nat) (fun i => [(1, .slc 1 0 f.length none), (19, .slc 0 0 n.arcs.length none), (20, .val (.int .i64 ((n.arcs.length : Nat) : Int))), (21, .val (.int .i64 ((i : Nat) : Int)))]) (fun i => [SO.arcs false n.arcs, SO.ints false .i64 f, .box [.val (.int .i64 n.N), .val (.int .i64 n.S), .val (.int .i64 n.T), .slc 0 0 n.arcs.length none]]) (fun i => n.arcs.length - i) (fun i => i ≤ n.arcs.length ∧ ∀ k : Nat, k < i → 0 ≤ f.getD k 0 ∧ f.getD k 0 ≤ (n.arcs.getD k Arc.none).cap) (0) [0, 1, 2] (⟨by simp, fun k hk => by omega⟩) ⟨shR rfl, shR rfl, shR rfl, trivial⟩ rfl (pre_ok rfl) hρ ⟨⟨_, rfl, rfl⟩, ⟨_, rfl, rfl⟩, ⟨_, rfl, rfl⟩, ⟨_, rfl, rfl⟩, trivial⟩ ?_
  rintro i ⟨gi, gk⟩
  refine w_seq ?_
  refine w_region ?_
  refine rw_t 22 rfl rfl rfl (do_bin rfl rfl rfl ?_)
  refine rw_nil ?_
  refine w_seq ?_
  refine w_cond rfl (fun hc2 => ?_) (fun hc2 => ?_)
  all_goals try simp only [bs] at hc2
  rotate_left
  · refine w_exit ?_
    refine w_seq ?_
    refine w_region ?_
    refine rw_t 4 rfl rfl rfl (do_assign rfl ?_)
    refine rw_nil ?_
    refine w_ret ?_
    exact ret_eq (.inl rfl) (.cons (res_tmp rfl) .nil) [0, 1] (Eq.symm (bool_congr (decide_eq_true ⟨by omega, fun k hk => gk k (by omega)⟩))) ⟨shR rfl, shR rfl, trivial⟩ rfl (pre_ok rfl)
  refine w_skip ?_
  refine w_seq ?_
  refine w_block ?_
  refine w_seq ?_
  refine w_region ?_
  refine rw_t 23 rfl rfl rfl (do_move rfl ?_)
  refine rw_t 24 rfl rfl rfl (do_ixn rfl rfl rfl (by first | omega | (simp only [ls] <;> omega)) ?_)
  refine rw_t 25 rfl rfl rfl (n_load_arragg [_, _, _] rfl rfl rfl (by first | omega | (simp only [ls] <;> omega)) rfl ?_)
  refine rw_t 6 rfl rfl rfl (n_alloc (n := 3) rfl ?_)
  refine rw_t 5 rfl rfl rfl (do_assign rfl ?_)
  refine rw_u rfl rfl (n_store_whole rfl rfl rfl rfl rfl rfl ?_)
  refine rw_nil ?_
  refine w_seqB 39 (((f.getD i 0) < 0 ∨ (f.getD i 0) > (n.arcs.getD i Arc.none).cap)) ?_ ?_
  · -- region 6
    refine w_draw mixed [0, 0, 3, 7, 15, 31, 63, 63, 255, 511, 63, 1087] [4095, 8191] (by kernel_rfl) (by kernel_rfl) rfl rfl rfl (hle hρ rfl) ?_
    refine ra_q (j := 0) rfl rfl rfl rfl (do_move rfl ⟨rfl, rfl⟩) (by rfl) ?_
    refine ra_q (j := 1) rfl rfl rfl rfl (do_move rfl ⟨rfl, rfl⟩) (by rfl) ?_
    refine ra_q (j := 2) rfl rfl rfl rfl (do_ixn rfl rfl rfl (by first | omega | (simp only [ls] <;> omega)) ⟨rfl, rfl⟩) (by rfl) ?_
    refine ra_q (j := 3) rfl rfl rfl rfl (do_load_arr rfl rfl (by first | omega | (simp only [ls] <;> omega)) rfl ⟨rfl, rfl⟩) (by rfl) ?_
    refine ra_q (j := 4) rfl rfl rfl rfl (do_bin rfl rfl rfl ⟨rfl, rfl⟩) (by rfl) ?_
    refine ra_q (j := 5) rfl rfl rfl rfl (do_move rfl ⟨rfl, rfl⟩) (by rfl) ?_
    refine ra_case 31 rfl (fun g1 => ?_) (fun g1 => ?_)
    · have kg1 := g1
      try simp only [bs] at kg1
      refine ra_gf (j := 6) rfl rfl rfl rfl (by rw [g1]; decide) rfl rfl rfl ?_
      refine ra_gf (j := 7) rfl rfl rfl rfl (by rw [g1]; decide) rfl rfl rfl ?_
      refine ra_gf (j := 8) rfl rfl rfl rfl (by rw [g1]; decide) rfl rfl rfl ?_
      refine ra_gf (j := 9) rfl rfl rfl rfl (by rw [g1]; decide) rfl rfl rfl ?_
      refine ra_gf (j := 10) rfl rfl rfl rfl (by rw [g1]; decide) rfl rfl rfl ?_
      refine ra_gf (j := 11) rfl rfl rfl rfl (by rw [g1]; decide) rfl rfl rfl ?_
      refine n_done ?_
      refine rw_gf 38 5 31 false rfl rfl rfl rfl rfl rfl (by rw [g1]; decide) ?_
      refine rw_t 39 rfl rfl rfl (do_pick_t rfl g1 rfl ?_)
      refine rw_nil ?_
      refine ⟨rfl, ⟨_, rfl, by first | (simp; done) | (simp only [bs]; omega) | (simp [*]; done) | (simp; omega) | (constructor <;> intro h <;> simp_all <;> omega)⟩, ?_⟩
      repeat (refine ⟨⟨_, rfl, rfl⟩, ?_⟩)
      exact trivial
    · have kg1 := g1
      try simp only [bs] at kg1
      refine ra_gt (j := 6) rfl rfl rfl rfl g1 rfl rfl rfl (do_move rfl ⟨rfl, rfl⟩) (by rfl) ?_
      refine ra_gt (j := 7) rfl rfl rfl rfl g1 rfl rfl rfl (do_move rfl ⟨rfl, rfl⟩) (by rfl) ?_
      refine ra_gt (j := 8) rfl rfl rfl rfl g1 rfl rfl rfl (do_ixn rfl rfl rfl (by first | omega | (simp only [ls] <;> omega)) ⟨rfl, rfl⟩) (by rfl) ?_
      refine ra_gt (j := 9) rfl rfl rfl rfl g1 rfl rfl rfl (do_load_arr rfl rfl (by first | omega | (simp only [ls] <;> omega)) rfl ⟨rfl, rfl⟩) (by rfl) ?_
      refine ra_gt (j := 10) rfl rfl rfl rfl g1 rfl rfl rfl (do_fieldaddr rfl ⟨rfl, rfl⟩) (by rfl) ?_
      refine ra_gt (j := 11) rfl rfl rfl rfl g1 rfl rfl rfl (do_load_box rfl rfl rfl ⟨rfl, rfl⟩) (by rfl) ?_
      refine n_done ?_
      refine rw_gt 38 5 31 false rfl rfl rfl rfl rfl rfl g1 (do_bin rfl rfl rfl ?_)
      refine rw_t 39 rfl rfl rfl (do_pick_f rfl g1 rfl ?_)
      refine rw_nil ?_
      refine ⟨rfl, ⟨_, rfl, by first | (simp; done) | (simp only [bs]; omega) | (simp [*]; done) | (simp; omega) | (constructor <;> intro h <;> simp_all <;> omega)⟩, ?_⟩
      repeat (refine ⟨⟨_, rfl, rfl⟩, ?_⟩)
      exact trivial
  intro b1 hb1
  refine w_condP hb1 rfl (fun hc3 => ?_) (fun hc3 => ?_)
  · refine w_seq ?_
    refine w_region ?_
    refine rw_t 4 rfl rfl rfl (do_assign rfl ?_)
    refine rw_nil ?_
    refine w_ret ?_
    exact ret_eq (.inl rfl) (.cons (res_tmp rfl) .nil) [0, 1] (Eq.symm (bool_congr (decide_eq_false (fun q => by have := q.2 i (by omega); omega)))) ⟨shR rfl, shR rfl, trivial⟩ rfl (pre_ok rfl)
  refine w_skip ?_
  refine w_region ?_
  refine rw_t 40 rfl rfl rfl (do_add rfl rfl (by omega) ?_)
  refine rw_t 21 rfl rfl rfl (do_move rfl ?_)
  refine rw_nil ?_
  refine ⟨i + 1, [0, 1, 2], by dsimp only; omega, ⟨by omega, fun k hk => by rcases Nat.lt_or_ge k i with q | q; exact gk k q; have : k = i := (by omega); subst this; omega⟩, ⟨shR rfl, shR rfl, shR rfl, trivial⟩, rfl, pre_ok rfl, ⟨⟨_, rfl, rfl⟩, ⟨_, rfl, rfl⟩, ⟨_, rfl, rfl⟩, ⟨_, rfl, rfl⟩, trivial⟩⟩
set_option maxHeartbeats 8000000 in
set_option synthInstance.maxHeartbeats 400000 in
set_option synthInstance.maxSize 2000 in
theorem t_Excess (n : Net) (h : NetOK n) (f : List Int) (hl : f.length ≤ 9223372036854775807) : Tri Try.prog 66 [.agg [.val (.int .i64 n.N), .val (.int .i64 n.S), .val (.int .i64 n.T), .slc 0 0 n.arcs.length none], .slc 1 0 f.length none] [SO.arcs false n.arcs, SO.ints false .i64 f] (fun s H => s = .tup [.slc 2 0 ((excR n f).1.length) none, .val (.int .i64 ((excR n f).2))] ∧ H = [SO.arcs false n.arcs, SO.ints false .i64 f, SO.ints true .i64 ((excR n f).1)]) := by
  refine tri_of_w (fn := Try.f66) Try.func66 rfl (by simp [Try.f66]) ?_
  intro ρ w hρ
  refine w_seq ?_
  have hm := h.many
  have hlo := h.lo
  have hhi := h.hi
  refine w_region ?_
  refine rw_t 2 rfl rfl rfl (n_box_agg (n := 2) rfl rfl ?_)
  refine rw_t 4 rfl rfl rfl (do_assign rfl ?_)
  refine rw_t 5 rfl rfl rfl (do_assign rfl ?_)
  refine rw_nil ?_
  refine w_seq ?_
  refine w_seq ?_
  refine w_region ?_
  refine rw_t 9 rfl rfl rfl (n_load_boxagg [_, _, _, _] rfl rfl (Nat.le_of_ble_eq_true rfl) rfl ?_)
  refine rw_t 10 rfl rfl rfl (do_move rfl ?_)
  refine rw_t 11 rfl rfl rfl (do_callR (X' := .val (.bool (decide (withinP n f)))) rfl rfl (t_Within (n := n) (f := f) (h) (by omega)) [0, 1] ⟨.inr ⟨_, rfl, srv⟩, .inr ⟨_, rfl, srv⟩, trivial⟩ rfl rfl rfl ?_)
  refine rw_t 12 rfl rfl rfl (do_not rfl ?_)
  refine rw_nil ?_
  refine w_cond rfl (fun hc1 => ?_) (fun hc1 => ?_)
  all_goals try simp only [bs] at hc1
  · refine w_seq ?_
    refine w_region ?_
    refine rw_t 4 rfl rfl rfl (do_assign rfl ?_)
    refine rw_t 5 rfl rfl rfl (do_assign rfl ?_)
    refine rw_nil ?_
    have e1 : excR n f = ([], 20) := by unfold excR; rw [if_neg ‹¬ withinP n f›]
    refine n_ghost Int 1 (encI .i64) 0 (fun _ => rfl) (fun _ _ h => by simp [encI] at h; subst h; rfl) ?_
    refine w_nilE 4 3 0 rfl ?_
    refine w_ret ?_
    exact ret_eq (.inl rfl) (.cons (res_tmp rfl) (.cons (res_tmp rfl) .nil)) [0, 1, 3] (by rw [e1]; rfl) ⟨shR rfl, shR rfl, .inr ⟨_, rfl, .inl (congrArg (SO.ints true .i64) (by rw [e1]; try rfl))⟩, trivial⟩ rfl (pre_ok rfl)
  refine w_skip ?_
  refine w_seq ?_
  have hwi : withinP n f := ‹withinP n f›
  refine w_region ?_
  refine rw_t 13 rfl rfl rfl (do_fieldaddr rfl ?_)
  refine rw_t 14 rfl rfl rfl (do_load_box rfl rfl rfl ?_)
  refine rw_t 15 rfl rfl rfl (n_make (nm := 3) Int (encI .i64) 0 rfl rfl rfl (fun _ => rfl) (fun _ _ h => by simp [encI] at h; subst h; rfl) (by omega) (by omega) (by omega) rfl ?_)
  refine rw_cap 15 rfl ?_
  refine rw_t 6 rfl rfl rfl (do_assign rfl ?_)
  refine rw_nil ?_
  refine w_seq ?_
  refine w_seq ?_
  refine w_region ?_
  refine rw_t 16 rfl rfl rfl (do_fieldaddr rfl ?_)
  refine rw_t 17 rfl rfl rfl (do_load_box rfl rfl rfl ?_)
  refine rw_t 18 rfl rfl rfl (do_len rfl ?_)
  refine rw_t 19 rfl rfl rfl (do_move rfl ?_)
  refine rw_nil ?_
  refine w_block ?_
  refine w_loopS (ι := Nat) (fun i => [(1, .slc 1 0 f.length none), (4, .val (.slice none 0 0)), (5, .val (.int .i64 0)), (6, .slc 3 0 n.N.toNat none), (17, .slc 0 0 n.arcs.length none), (18, .val (.int .i64 ((n.arcs.length : Nat) : Int))), (19, .val (.int .i64 ((i : Nat) : Int)))]) (fun i => [SO.arcs false n.arcs, SO.ints false .i64 f, .box [.val (.int .i64 n.N), .val (.int .i64 n.S), .val (.int .i64 n.T), .slc 0 0 n.arcs.length none], SO.ints true .i64 (exL n f i)]) (fun i => n.arcs.length - i) (fun i => i ≤ n.arcs.length) (0) [0, 1, 2, 3] (by simp) ⟨shR rfl, shR rfl, shR rfl, .inr ⟨_, rfl, .inl (congrArg (SO.ints true .i64) (rfl))⟩, trivial⟩ rfl (pre_ok rfl) hρ ⟨⟨_, rfl, rfl⟩, ⟨_, rfl, rfl⟩, ⟨_, rfl, rfl⟩, ⟨_, rfl, rfl⟩, ⟨_, rfl, rfl⟩, ⟨_, rfl, rfl⟩, ⟨_, rfl, rfl⟩, trivial⟩ ?_
  intro i hi
  refine w_seq ?_
  refine w_region ?_
  refine rw_t 20 rfl rfl rfl (do_bin rfl rfl rfl ?_)
  refine rw_nil ?_
  refine w_seq ?_
  refine w_cond rfl (fun hc2 => ?_) (fun hc2 => ?_)
  all_goals try simp only [bs] at hc2
  rotate_left
  · refine w_exit ?_
    refine w_seq ?_
    refine w_region ?_
    refine rw_t 47 rfl rfl rfl (do_move rfl ?_)
    refine rw_t 4 rfl rfl rfl (do_assign rfl ?_)
    refine rw_t 5 rfl rfl rfl (do_assign rfl ?_)
    refine rw_nil ?_
    have hi' : i = n.arcs.length := by omega
    subst hi'
    have e1 : excR n f = (exL n f n.arcs.length, 0) := by unfold excR; rw [if_pos hwi]
    have hel := exL_len n f n.arcs.length
    refine w_ret ?_
    exact ret_eq (.inl rfl) (.cons (res_tmp rfl) (.cons (res_tmp rfl) .nil)) [0, 1, 3] (by rw [e1]; exact congrArg (fun k => SV.tup [SV.slc 3 0 k Option.none, .val (.int .i64 0)]) (show n.N.toNat = _ by rw [hel])) ⟨shR rfl, shR rfl, .inr ⟨_, rfl, .inl (congrArg (SO.ints true .i64) (by rw [e1]; try rfl))⟩, trivial⟩ rfl (pre_ok rfl)
  refine w_skip ?_
  refine w_seq ?_
  refine w_block ?_
  refine w_seq ?_
  have ha := h.arc (show i < n.arcs.length by omega)
  have hel := exL_len n f i
  have hcs := take_capSum (show i < n.arcs.length by omega)
  have hcp := h.part (i + 1)
  have hcp0 := h.part i
  have hfl := hwi.1
  have hfk := hwi.2 i (by omega)
  have hx1 := exL_in h hwi i (by omega) (n.arcs.getD i Arc.none).frm.toNat
  have hx2 := exL_in h hwi i (by omega) (n.arcs.getD i Arc.none).to.toNat
  refine w_region ?_
  refine rw_t 21 rfl rfl rfl (do_move rfl ?_)
  refine rw_t 22 rfl rfl rfl (do_ixn rfl rfl rfl (by first | omega | (simp only [ls] <;> omega)) ?_)
  refine rw_t 23 rfl rfl rfl (n_load_arragg [_, _, _] rfl rfl rfl (by first | omega | (simp only [ls] <;> omega)) rfl ?_)
  refine rw_t 8 rfl rfl rfl (n_alloc (n := 4) rfl ?_)
  refine rw_t 7 rfl rfl rfl (do_assign rfl ?_)
  refine rw_u rfl rfl (n_store_whole rfl rfl rfl rfl rfl rfl ?_)
  refine rw_nil ?_
  refine w_seq ?_
  refine w_draw mixed [0, 0, 2, 7, 15, 0, 0, 96, 224] [511, 1023, 2047] (by kernel_rfl) (by kernel_rfl) rfl rfl rfl (hle hρ rfl) ?_
  refine ra_q (j := 0) rfl rfl rfl rfl (do_move rfl ⟨rfl, rfl⟩) (by rfl) ?_
  refine ra_q (j := 1) rfl rfl rfl rfl (do_fieldaddr rfl ⟨rfl, rfl⟩) (by rfl) ?_
  refine ra_q (j := 2) rfl rfl rfl rfl (do_load_box rfl rfl rfl ⟨rfl, rfl⟩) (by rfl) ?_
  refine ra_q (j := 3) rfl rfl rfl rfl (do_ix0 rfl rfl rfl (by first | omega | (simp only [ls] <;> omega)) ⟨rfl, rfl⟩) (by rfl) ?_
  refine ra_q (j := 4) rfl rfl rfl rfl (do_load_arr rfl rfl (by first | omega | (simp only [ls] <;> omega)) rfl ⟨rfl, rfl⟩) (by rfl) ?_
  refine ra_q (j := 5) rfl rfl rfl rfl (do_move rfl ⟨rfl, rfl⟩) (by rfl) ?_
  refine ra_q (j := 6) rfl rfl rfl rfl (do_move rfl ⟨rfl, rfl⟩) (by rfl) ?_
  refine ra_q (j := 7) rfl rfl rfl rfl (do_ixn rfl rfl rfl (by first | omega | (simp only [ls] <;> omega)) ⟨rfl, rfl⟩) (by rfl) ?_
  refine ra_q (j := 8) rfl rfl rfl rfl (do_load_arr rfl rfl (by first | omega | (simp only [ls] <;> omega)) rfl ⟨rfl, rfl⟩) (by rfl) ?_
  refine n_done ?_
  refine rw_t 33 rfl rfl rfl (do_sub rfl rfl (by omega) ?_)
  refine rw_t 34 rfl rfl rfl (do_ix0 rfl rfl rfl (by first | omega | (simp only [ls] <;> omega)) ?_)
  refine rw_u rfl rfl (n_store_arr (z := (((exL n f i).getD (((n.arcs.getD i Arc.none).frm).toNat) 0) - (f.getD i 0))) rfl rfl rfl (by first | omega | (simp only [ls] <;> omega)) rfl (by decide) rfl ?_)
  refine rw_nil ?_
  have hx3 : -(capSum (n.arcs.take (i + 1))) ≤ ((exL n f i).set (n.arcs.getD i Arc.none).frm.toNat ((exL n f i).getD (n.arcs.getD i Arc.none).frm.toNat 0 - f.getD i 0)).getD (n.arcs.getD i Arc.none).to.toNat 0 ∧ ((exL n f i).set (n.arcs.getD i Arc.none).frm.toNat ((exL n f i).getD (n.arcs.getD i Arc.none).frm.toNat 0 - f.getD i 0)).getD (n.arcs.getD i Arc.none).to.toNat 0 ≤ capSum (n.arcs.take i) := by
    by_cases hq : (n.arcs.getD i Arc.none).frm.toNat = (n.arcs.getD i Arc.none).to.toNat
    · rw [hq, lget_at' (by omega)]; omega
    · rw [lget_ne hq]; omega
  refine w_draw mixed [0, 0, 2, 7, 15, 0, 0, 96, 224] [511, 1023, 2047] (by kernel_rfl) (by kernel_rfl) rfl rfl rfl (hle hρ rfl) ?_
  refine ra_q (j := 0) rfl rfl rfl rfl (do_move rfl ⟨rfl, rfl⟩) (by rfl) ?_
  refine ra_q (j := 1) rfl rfl rfl rfl (do_fieldaddr rfl ⟨rfl, rfl⟩) (by rfl) ?_
  refine ra_q (j := 2) rfl rfl rfl rfl (do_load_box rfl rfl rfl ⟨rfl, rfl⟩) (by rfl) ?_
  refine ra_q (j := 3) rfl rfl rfl rfl (do_ix0 rfl rfl rfl (by first | omega | (simp only [ls] <;> omega)) ⟨rfl, rfl⟩) (by rfl) ?_
  refine ra_q (j := 4) rfl rfl rfl rfl (do_load_arr rfl rfl (by first | omega | (simp only [ls] <;> omega)) rfl ⟨rfl, rfl⟩) (by rfl) ?_
  refine ra_q (j := 5) rfl rfl rfl rfl (do_move rfl ⟨rfl, rfl⟩) (by rfl) ?_
  refine ra_q (j := 6) rfl rfl rfl rfl (do_move rfl ⟨rfl, rfl⟩) (by rfl) ?_
  refine ra_q (j := 7) rfl rfl rfl rfl (do_ixn rfl rfl rfl (by first | omega | (simp only [ls] <;> omega)) ⟨rfl, rfl⟩) (by rfl) ?_
  refine ra_q (j := 8) rfl rfl rfl rfl (do_load_arr rfl rfl (by first | omega | (simp only [ls] <;> omega)) rfl ⟨rfl, rfl⟩) (by rfl) ?_
  refine n_done ?_
  refine rw_t 44 rfl rfl rfl (do_add rfl rfl (by omega) ?_)
  refine rw_t 45 rfl rfl rfl (do_ix0 rfl rfl rfl (by first | omega | (simp only [ls] <;> omega)) ?_)
  refine rw_u rfl rfl (n_store_arr (z := ((((exL n f i).set (((n.arcs.getD i Arc.none).frm).toNat) (((exL n f i).getD (((n.arcs.getD i Arc.none).frm).toNat) 0) - (f.getD i 0))).getD (((n.arcs.getD i Arc.none).to).toNat) 0) + (f.getD i 0))) rfl rfl rfl (by first | omega | (simp only [ls] <;> omega)) rfl (by decide) rfl ?_)
  refine rw_nil ?_
  refine w_region ?_
  refine rw_t 46 rfl rfl rfl (do_add rfl rfl (by omega) ?_)
  refine rw_t 19 rfl rfl rfl (do_move rfl ?_)
  refine rw_nil ?_
  refine ⟨i + 1, [0, 1, 2, 3], by dsimp only; omega, by omega, ⟨shR rfl, shR rfl, shR rfl, .inr ⟨_, rfl, .inl (congrArg (SO.ints true .i64) (rfl))⟩, trivial⟩, rfl, pre_ok rfl, ⟨⟨_, rfl, rfl⟩, ⟨_, rfl, rfl⟩, ⟨_, rfl, rfl⟩, ⟨_, rfl, rfl⟩, ⟨_, rfl, rfl⟩, ⟨_, rfl, rfl⟩, ⟨_, rfl, rfl⟩, trivial⟩⟩
set_option maxHeartbeats 8000000 in
set_option synthInstance.maxHeartbeats 400000 in
set_option synthInstance.maxSize 2000 in
theorem t_IndexEq (xs : List Int) (x : Int) (hl : xs.length ≤ 9223372036854775807) : Tri Try.prog 100 [.slc 0 0 xs.length none, .val (.int .i64 x)] [SO.ints false .i64 xs] (fun s H => s = .val (.int .i64 (idxI (eqQ x) xs)) ∧ H = [SO.ints false .i64 xs]) := by
  refine tri_of_w (fn := Try.f100) Try.func100 rfl (by simp [Try.f100]) ?_
  intro ρ w hρ
  refine w_seq ?_
  refine w_region ?_
  refine rw_t 4 rfl rfl rfl (do_assign rfl ?_)
  refine rw_nil ?_
  refine w_seq ?_
  refine w_seq ?_
  refine w_region ?_
  refine rw_t 6 rfl rfl rfl (do_move rfl ?_)
  refine rw_t 7 rfl rfl rfl (do_len rfl ?_)
  refine rw_t 8 rfl rfl rfl (do_move rfl ?_)
  refine rw_nil ?_
  refine w_block ?_
  refine w_loopS (ι := Nat) (fun i => [(0, .slc 0 0 xs.length none), (1, .val (.int .i64 x)), (7, .val (.int .i64 ((xs.length : Nat) : Int))), (8, .val (.int .i64 ((i : Nat) : Int)))]) (fun i => [SO.ints false .i64 xs]) (fun i => xs.length - i) (fun i => i ≤ xs.length ∧ ∀ k, k < i → ¬ (x = xs.getD k 0)) (0) [0] (⟨by simp, fun k hk => by omega⟩) ⟨shR rfl, trivial⟩ rfl (pre_ok rfl) hρ ⟨⟨_, rfl, rfl⟩, ⟨_, rfl, rfl⟩, ⟨_, rfl, rfl⟩, ⟨_, rfl, rfl⟩, trivial⟩ ?_
  rintro i ⟨g1, g2⟩
  refine w_seq ?_
  refine w_region ?_
  refine rw_t 9 rfl rfl rfl (do_bin rfl rfl rfl ?_)
  refine rw_nil ?_
  refine w_seq ?_
  refine w_cond rfl (fun hc1 => ?_) (fun hc1 => ?_)
  all_goals try simp only [bs] at hc1
  rotate_left
  · refine w_exit ?_
    refine w_seq ?_
    refine w_region ?_
    refine rw_t 4 rfl rfl rfl (do_assign rfl ?_)
    refine rw_nil ?_
    refine w_ret ?_
    exact ret_eq (.inl rfl) (.cons (res_tmp rfl) .nil) [0] (Eq.symm (val_congr (by rw [idx_none (fun k hk => decide_eq_false (g2 k (by omega)))]))) ⟨shR rfl, trivial⟩ rfl (pre_ok rfl)
  refine w_skip ?_
  refine w_seq ?_
  refine w_block ?_
  refine w_seq ?_
  refine w_region ?_
  refine rw_t 10 rfl rfl rfl (do_move rfl ?_)
  refine rw_t 5 rfl rfl rfl (do_assign rfl ?_)
  refine rw_nil ?_
  refine w_seq ?_
  refine w_region ?_
  refine rw_t 11 rfl rfl rfl (do_move rfl ?_)
  refine rw_t 12 rfl rfl rfl (do_move rfl ?_)
  refine rw_t 13 rfl rfl rfl (do_move rfl ?_)
  refine rw_t 14 rfl rfl rfl (do_ixn rfl rfl rfl (by first | omega | (simp only [ls] <;> omega)) ?_)
  refine rw_t 15 rfl rfl rfl (do_load_arr rfl rfl (by first | omega | (simp only [ls] <;> omega)) rfl ?_)
  refine rw_t 16 rfl rfl rfl (do_bin rfl rfl rfl ?_)
  refine rw_nil ?_
  refine w_cond rfl (fun hc2 => ?_) (fun hc2 => ?_)
  all_goals try simp only [bs] at hc2
  · refine w_seq ?_
    refine w_region ?_
    refine rw_t 17 rfl rfl rfl (do_move rfl ?_)
    refine rw_t 4 rfl rfl rfl (do_assign rfl ?_)
    refine rw_nil ?_
    refine w_ret ?_
    exact ret_eq (.inl rfl) (.cons (res_tmp rfl) .nil) [0] (Eq.symm (val_congr (by rw [idx_at (by omega) (decide_eq_true hc2) (fun k hk => decide_eq_false (g2 k hk))]))) ⟨shR rfl, trivial⟩ rfl (pre_ok rfl)
  refine w_skip ?_
  refine w_region ?_
  refine rw_t 18 rfl rfl rfl (do_add rfl rfl (by omega) ?_)
  refine rw_t 8 rfl rfl rfl (do_move rfl ?_)
  refine rw_nil ?_
  refine ⟨i + 1, [0], by dsimp only; omega, ⟨by omega, fun k hk => by rcases Nat.lt_or_ge k i with hki | hki; exact g2 k hki; have : k = i := (by omega); subst this; exact hc2⟩, ⟨shR rfl, trivial⟩, rfl, pre_ok rfl, ⟨⟨_, rfl, rfl⟩, ⟨_, rfl, rfl⟩, ⟨_, rfl, rfl⟩, ⟨_, rfl, rfl⟩, trivial⟩⟩
set_option maxHeartbeats 8000000 in
set_option synthInstance.maxHeartbeats 400000 in
set_option synthInstance.maxSize 2000 in
theorem t_ContainsEq (xs : List Int) (x : Int) (hl : xs.length ≤ 9223372036854775807) : Tri Try.prog 90 [.slc 0 0 xs.length none, .val (.int .i64 x)] [SO.ints false .i64 xs] (fun s H => s = .val (.bool (decide (idxI (eqQ x) xs ≥ 0))) ∧ H = [SO.ints false .i64 xs]) := by
  refine tri_of_w (fn := Try.f90) Try.func90 rfl (by simp [Try.f90]) ?_
  intro ρ w hρ
  refine w_seq ?_
  refine w_region ?_
  refine rw_t 4 rfl rfl rfl (do_assign rfl ?_)
  refine rw_nil ?_
  refine w_seq ?_
  refine w_region ?_
  refine rw_t 5 rfl rfl rfl (do_move rfl ?_)
  refine rw_t 6 rfl rfl rfl (do_move rfl ?_)
  refine rw_t 7 rfl rfl rfl (do_callR (X' := .val (.int .i64 (idxI (eqQ x) xs))) rfl rfl (t_IndexEq (xs := xs) (x := x) (hl)) [0] ⟨.inr ⟨_, rfl, srv⟩, trivial⟩ rfl rfl rfl ?_)
  refine rw_t 8 rfl rfl rfl (do_bin rfl rfl rfl ?_)
  refine rw_t 4 rfl rfl rfl (do_assign rfl ?_)
  refine rw_nil ?_
  refine w_ret ?_
  exact ret_eq (.inl rfl) (.cons (res_tmp rfl) .nil) [0] (rfl) ⟨shR rfl, trivial⟩ rfl (pre_ok rfl)
set_option maxHeartbeats 8000000 in
set_option synthInstance.maxHeartbeats 400000 in
set_option synthInstance.maxSize 2000 in
theorem t_fzero (x : Int) : Tri Try.prog 84 [.val (.int .i64 x)] [] (fun s H => s = .val (.bool (x == 0)) ∧ H = []) := by
  refine tri_of_w (fn := Try.f84) Try.func84 rfl (by simp [Try.f84]) ?_
  intro ρ w hρ
  refine w_seq ?_
  refine w_region ?_
  refine rw_t 2 rfl rfl rfl (do_assign rfl ?_)
  refine rw_nil ?_
  refine w_seq ?_
  refine w_region ?_
  refine rw_t 3 rfl rfl rfl (do_move rfl ?_)
  refine rw_t 4 rfl rfl rfl (do_bin rfl rfl rfl ?_)
  refine rw_t 2 rfl rfl rfl (do_assign rfl ?_)
  refine rw_nil ?_
  refine w_ret ?_
  exact ret_eq (.inl rfl) (.cons (res_tmp rfl) .nil) [] (rfl) trivial rfl (pre_ok rfl)
set_option maxHeartbeats 8000000 in
set_option synthInstance.maxHeartbeats 400000 in
set_option synthInstance.maxSize 2000 in
theorem t_fall (n : Net) (h : NetOK n) (f : List Int) (hl : f.length ≤ 9223372036854775807) (a b : Int) : Tri Try.prog 83 [.agg [.val (.int .i64 n.N), .val (.int .i64 n.S), .val (.int .i64 n.T), .slc 0 0 n.arcs.length none], .slc 1 0 f.length none, .func 84 [] [], .slc 2 0 2 none] [SO.arcs false n.arcs, SO.ints false .i64 f, SO.ints false .i64 [a, b]] (fun s H => s = .val (.bool (decide (zeroP n f a b))) ∧ H = [SO.arcs false n.arcs, SO.ints false .i64 f, SO.ints false .i64 [a, b]]) := by
  refine tri_of_w (fn := Try.f83) Try.func83 rfl (by simp [Try.f83]) ?_
  intro ρ w hρ
  refine w_seq ?_
  have hm := h.many
  have hlo := h.lo
  have hhi := h.hi
  have hxl := exc_len (n := n) (f := f)
  refine w_region ?_
  refine rw_t 4 rfl rfl rfl (n_box_agg (n := 3) rfl rfl ?_)
  refine rw_t 8 rfl rfl rfl (do_assign rfl ?_)
  refine rw_nil ?_
  refine w_seq ?_
  refine w_region ?_
  refine rw_t 14 rfl rfl rfl (n_load_boxagg [_, _, _, _] rfl rfl (Nat.le_of_ble_eq_true rfl) rfl ?_)
  refine rw_t 15 rfl rfl rfl (do_move rfl ?_)
  refine rw_t 16 rfl rfl rfl (n_callN (X' := .tup [.slc 4 0 ((excR n f).1.length) none, .val (.int .i64 ((excR n f).2))]) (N' := [SO.ints true .i64 ((excR n f).1)]) rfl rfl (t_Excess (n := n) (f := f) (h) (hl)) [0, 1] ⟨.inr ⟨_, rfl, srv⟩, .inr ⟨_, rfl, srv⟩, trivial⟩ rfl rfl rfl rfl rfl ?_)
  refine rw_t 13 rfl rfl rfl (do_move rfl ?_)
  refine rw_t 17 rfl rfl rfl (do_extract rfl rfl ?_)
  refine rw_t 18 rfl rfl rfl (do_extract rfl rfl ?_)
  refine rw_t 9 rfl rfl rfl (do_assign rfl ?_)
  refine rw_t 10 rfl rfl rfl (do_assign rfl ?_)
  refine rw_nil ?_
  refine w_seq ?_
  refine w_seq ?_
  refine w_region ?_
  refine rw_t 19 rfl rfl rfl (do_move rfl ?_)
  refine rw_t 20 rfl rfl rfl (do_len rfl ?_)
  refine rw_t 21 rfl rfl rfl (do_move rfl ?_)
  refine rw_nil ?_
  refine w_block ?_
  refine w_loopS (ι := Nat) (fun i => [(2, .func 84 [] []), (3, .slc 2 0 2 none), (10, .val (.int .i64 ((excR n f).2))), (19, .slc 4 0 ((excR n f).1.length) none), (20, .val (.int .i64 (((excR n f).1.length : Nat) : Int))), (21, .val (.int .i64 ((i : Nat) : Int)))]) (fun i => [SO.arcs false n.arcs, SO.ints false .i64 f, SO.ints false .i64 [a, b], .box [.val (.int .i64 n.N), .val (.int .i64 n.S), .val (.int .i64 n.T), .slc 0 0 n.arcs.length none], SO.ints true .i64 ((excR n f).1)]) (fun i => (excR n f).1.length - i) (fun i => i ≤ (excR n f).1.length ∧ ∀ v : Nat, v < i → (excR n f).1.getD v 0 = 0 ∨ (v : Int) = a ∨ (v : Int) = b) (0) [0, 1, 2, 3, 4] (⟨by simp, fun v hv => by omega⟩) ⟨shR rfl, shR rfl, shR rfl, shR rfl, shR rfl, trivial⟩ rfl (pre_ok rfl) hρ ⟨⟨_, rfl, rfl⟩, ⟨_, rfl, rfl⟩, ⟨_, rfl, rfl⟩, ⟨_, rfl, rfl⟩, ⟨_, rfl, rfl⟩, ⟨_, rfl, rfl⟩, trivial⟩ ?_
  rintro i ⟨gi, gk⟩
  refine w_seq ?_
  refine w_region ?_
  refine rw_t 22 rfl rfl rfl (do_bin rfl rfl rfl ?_)
  refine rw_nil ?_
  refine w_seq ?_
  refine w_cond rfl (fun hc1 => ?_) (fun hc1 => ?_)
  all_goals try simp only [bs] at hc1
  rotate_left
  · refine w_exit ?_
    refine w_seq ?_
    refine w_region ?_
    refine rw_t 37 rfl rfl rfl (do_move rfl ?_)
    refine rw_t 38 rfl rfl rfl (do_bin rfl rfl rfl ?_)
    refine rw_t 8 rfl rfl rfl (do_assign rfl ?_)
    refine rw_nil ?_
    refine w_ret ?_
    exact ret_eq (.inl rfl) (.cons (res_tmp rfl) .nil) [0, 1, 2] (Eq.symm (bool_congr (zero_end (fun v hv => gk v (by omega))))) ⟨shR rfl, shR rfl, shR rfl, trivial⟩ rfl (pre_ok rfl)
  refine w_skip ?_
  refine w_seq ?_
  refine w_block ?_
  refine w_seq ?_
  refine w_region ?_
  refine rw_t 23 rfl rfl rfl (do_move rfl ?_)
  refine rw_t 24 rfl rfl rfl (do_ixn rfl rfl rfl (by first | omega | (simp only [ls] <;> omega)) ?_)
  refine rw_t 25 rfl rfl rfl (do_load_arr rfl rfl (by first | omega | (simp only [ls] <;> omega)) rfl ?_)
  refine rw_t 11 rfl rfl rfl (do_assign rfl ?_)
  refine rw_t 12 rfl rfl rfl (do_assign rfl ?_)
  refine rw_nil ?_
  refine w_seqB 35 ((¬ ((((excR n f).1).getD i 0) = 0) ∧ ¬ (idxI (eqQ ((i : Nat) : Int)) [a, b] ≥ 0))) ?_ ?_
  · -- region 5
    refine w_region ?_
    refine rw_t 26 rfl rfl rfl (do_move rfl ?_)
    refine rw_t 27 rfl rfl rfl (do_move rfl ?_)
    refine rw_t 28 rfl rfl rfl (do_callR (X' := .val (.bool ((((excR n f).1).getD i 0) == 0))) rfl rfl (t_fzero (x := (((excR n f).1).getD i 0))) [] trivial rfl rfl rfl ?_)
    refine rw_t 29 rfl rfl rfl (do_not rfl ?_)
    refine rw_t 30 rfl rfl rfl (do_move rfl ?_)
    refine rw_case 30 rfl (fun g1 => ?_) (fun g1 => ?_)
    · have kg1 := g1
      try simp only [bs] at kg1
      refine rw_gt 31 4 30 true rfl rfl rfl rfl rfl rfl g1 (do_move rfl ?_)
      refine rw_gt 32 4 30 true rfl rfl rfl rfl rfl rfl g1 (do_move rfl ?_)
      refine rw_gt 33 4 30 true rfl rfl rfl rfl rfl rfl g1 (do_callR (X' := .val (.bool (decide (idxI (eqQ ((i : Nat) : Int)) [a, b] ≥ 0)))) rfl rfl (t_ContainsEq (xs := [a, b]) (x := ((i : Nat) : Int)) (by simp)) [2] ⟨.inr ⟨_, rfl, srv⟩, trivial⟩ rfl rfl rfl ?_)
      refine rw_gt 34 4 30 true rfl rfl rfl rfl rfl rfl g1 (do_not rfl ?_)
      refine rw_t 35 rfl rfl rfl (do_pick_t rfl g1 rfl ?_)
      refine rw_nil ?_
      refine ⟨rfl, ⟨_, rfl, by first | (simp; done) | (simp only [bs]; omega) | (simp [*]; done) | (simp; omega) | (constructor <;> intro h <;> simp_all <;> omega)⟩, ?_⟩
      repeat (refine ⟨⟨_, rfl, rfl⟩, ?_⟩)
      exact trivial
    · have kg1 := g1
      try simp only [bs] at kg1
      refine rw_gf 31 4 30 true rfl rfl rfl rfl rfl rfl (by rw [g1]; decide) ?_
      refine rw_gf 32 4 30 true rfl rfl rfl rfl rfl rfl (by rw [g1]; decide) ?_
      refine rw_gf 33 4 30 true rfl rfl rfl rfl rfl rfl (by rw [g1]; decide) ?_
      refine rw_gf 34 4 30 true rfl rfl rfl rfl rfl rfl (by rw [g1]; decide) ?_
      refine rw_t 35 rfl rfl rfl (do_pick_f rfl g1 rfl ?_)
      refine rw_nil ?_
      refine ⟨rfl, ⟨_, rfl, by first | (simp; done) | (simp only [bs]; omega) | (simp [*]; done) | (simp; omega) | (constructor <;> intro h <;> simp_all <;> omega)⟩, ?_⟩
      repeat (refine ⟨⟨_, rfl, rfl⟩, ?_⟩)
      exact trivial
  intro b1 hb1
  refine w_condP hb1 rfl (fun hc2 => ?_) (fun hc2 => ?_)
  · refine w_seq ?_
    refine w_region ?_
    refine rw_t 8 rfl rfl rfl (do_assign rfl ?_)
    refine rw_nil ?_
    refine w_ret ?_
    exact ret_eq (.inl rfl) (.cons (res_tmp rfl) .nil) [0, 1, 2] (Eq.symm (bool_congr (decide_eq_false (zero_not (v := i) (by omega) hc2.1 (idx_two.1 hc2.2))))) ⟨shR rfl, shR rfl, shR rfl, trivial⟩ rfl (pre_ok rfl)
  refine w_skip ?_
  refine w_region ?_
  refine rw_t 36 rfl rfl rfl (do_add rfl rfl (by omega) ?_)
  refine rw_t 21 rfl rfl rfl (do_move rfl ?_)
  refine rw_nil ?_
  refine ⟨i + 1, [0, 1, 2, 3, 4], by dsimp only; omega, ⟨by omega, fun v hv => by rcases Nat.lt_or_ge v i with q | q; exact gk v q; have e : v = i := (by omega); subst e; by_cases hz : (excR n f).1.getD v 0 = 0; exact .inl hz; exact .inr (Decidable.byContradiction fun hno => hc2 ⟨hz, fun hq => (idx_two.2 ⟨fun e => hno (.inl e), fun e => hno (.inr e)⟩) hq⟩)⟩, ⟨shR rfl, shR rfl, shR rfl, shR rfl, shR rfl, trivial⟩, rfl, pre_ok rfl, ⟨⟨_, rfl, rfl⟩, ⟨_, rfl, rfl⟩, ⟨_, rfl, rfl⟩, ⟨_, rfl, rfl⟩, ⟨_, rfl, rfl⟩, ⟨_, rfl, rfl⟩, trivial⟩⟩
set_option maxHeartbeats 8000000 in
set_option synthInstance.maxHeartbeats 400000 in
set_option synthInstance.maxSize 2000 in
theorem t_fRight (n : Net) (h : NetOK n) (f : List Int) (hl : f.length ≤ 9223372036854775807) : Tri Try.prog 65 [.agg [.val (.int .i64 n.N), .val (.int .i64 n.S), .val (.int .i64 n.T), .slc 0 0 n.arcs.length none], .slc 1 0 f.length none] [SO.arcs false n.arcs, SO.ints false .i64 f] (fun s H => s = .val (.bool (decide (zeroP n f n.S n.T))) ∧ H = [SO.arcs false n.arcs, SO.ints false .i64 f]) := by
  refine tri_of_w (fn := Try.f65) Try.func65 rfl (by simp [Try.f65]) ?_
  intro ρ w hρ
  refine w_seq ?_
  refine w_region ?_
  refine rw_t 2 rfl rfl rfl (n_box_agg (n := 2) rfl rfl ?_)
  refine rw_t 4 rfl rfl rfl (do_assign rfl ?_)
  refine rw_nil ?_
  refine w_seq ?_
  refine w_region ?_
  refine rw_t 5 rfl rfl rfl (n_load_boxagg [_, _, _, _] rfl rfl (Nat.le_of_ble_eq_true rfl) rfl ?_)
  refine rw_t 6 rfl rfl rfl (do_move rfl ?_)
  refine rw_t 7 rfl rfl rfl (do_fieldaddr rfl ?_)
  refine rw_t 8 rfl rfl rfl (do_load_box rfl rfl rfl ?_)
  refine rw_t 9 rfl rfl rfl (do_fieldaddr rfl ?_)
  refine rw_t 10 rfl rfl rfl (do_load_box rfl rfl rfl ?_)
  refine rw_t 11 rfl rfl rfl (n_bs (nm := 3) Int (encI .i64) 0 [n.S, n.T] rfl rfl rfl rfl rfl (fun _ => rfl) (fun _ _ h => by simp [encI] at h; subst h; rfl) rfl ?_)
  refine rw_cap 11 rfl ?_
  refine rw_t 12 rfl rfl rfl (do_callR (X' := .val (.bool (decide (zeroP n f n.S n.T)))) rfl rfl (t_fall (n := n) (f := f) (a := n.S) (b := n.T) (h) (hl)) [0, 1, 3] ⟨.inr ⟨_, rfl, srv⟩, .inr ⟨_, rfl, srv⟩, .inr ⟨_, rfl, srv⟩, trivial⟩ rfl rfl rfl ?_)
  refine rw_t 4 rfl rfl rfl (do_assign rfl ?_)
  refine rw_nil ?_
  refine w_ret ?_
  exact ret_eq (.inl rfl) (.cons (res_tmp rfl) .nil) [0, 1] (rfl) ⟨shR rfl, shR rfl, trivial⟩ rfl (pre_ok rfl)
set_option maxHeartbeats 8000000 in
set_option synthInstance.maxHeartbeats 400000 in
set_option synthInstance.maxSize 2000 in
theorem t_Value (n : Net) (h : NetOK n) (f : List Int) (hl : f.length ≤ 9223372036854775807) : Tri Try.prog 37 [.agg [.val (.int .i64 n.N), .val (.int .i64 n.S), .val (.int .i64 n.T), .slc 0 0 n.arcs.length none], .slc 1 0 f.length none] [SO.arcs false n.arcs, SO.ints false .i64 f] (fun s H => s = .tup [.val (.int .i64 ((valR n f).1)), .val (.int .i64 ((valR n f).2))] ∧ H = [SO.arcs false n.arcs, SO.ints false .i64 f]) := by
  refine tri_of_w (fn := Try.f37) Try.func37 rfl (by simp [Try.f37]) ?_
  intro ρ w hρ
  refine w_seq ?_
  have hT := h.t
  refine w_region ?_
  refine rw_t 2 rfl rfl rfl (n_box_agg (n := 2) rfl rfl ?_)
  refine rw_t 4 rfl rfl rfl (do_assign rfl ?_)
  refine rw_t 5 rfl rfl rfl (do_assign rfl ?_)
  refine rw_nil ?_
  refine w_seq ?_
  refine w_seq ?_
  refine w_region ?_
  refine rw_t 8 rfl rfl rfl (n_load_boxagg [_, _, _, _] rfl rfl (Nat.le_of_ble_eq_true rfl) rfl ?_)
  refine rw_t 9 rfl rfl rfl (do_move rfl ?_)
  refine rw_t 10 rfl rfl rfl (do_callR (X' := .val (.bool (decide (zeroP n f n.S n.T)))) rfl rfl (t_fRight (n := n) (f := f) (h) (hl)) [0, 1] ⟨.inr ⟨_, rfl, srv⟩, .inr ⟨_, rfl, srv⟩, trivial⟩ rfl rfl rfl ?_)
  refine rw_t 11 rfl rfl rfl (do_not rfl ?_)
  refine rw_nil ?_
  refine w_cond rfl (fun hc1 => ?_) (fun hc1 => ?_)
  all_goals try simp only [bs] at hc1
  · refine w_seq ?_
    refine w_region ?_
    refine rw_t 4 rfl rfl rfl (do_assign rfl ?_)
    refine rw_t 5 rfl rfl rfl (do_assign rfl ?_)
    refine rw_nil ?_
    refine w_ret ?_
    exact ret_eq (.inl rfl) (.cons (res_tmp rfl) (.cons (res_tmp rfl) .nil)) [0, 1] (by rw [val_neg ‹¬ zeroP n f n.S n.T›]; rfl) ⟨shR rfl, shR rfl, trivial⟩ rfl (pre_ok rfl)
  refine w_skip ?_
  refine w_seq ?_
  refine w_region ?_
  refine rw_t 13 rfl rfl rfl (n_load_boxagg [_, _, _, _] rfl rfl (Nat.le_of_ble_eq_true rfl) rfl ?_)
  refine rw_t 14 rfl rfl rfl (do_move rfl ?_)
  refine rw_t 15 rfl rfl rfl (n_callN (X' := .tup [.slc 3 0 ((excR n f).1.length) none, .val (.int .i64 ((excR n f).2))]) (N' := [SO.ints true .i64 ((excR n f).1)]) rfl rfl (t_Excess (n := n) (f := f) (h) (hl)) [0, 1] ⟨.inr ⟨_, rfl, srv⟩, .inr ⟨_, rfl, srv⟩, trivial⟩ rfl rfl rfl rfl rfl ?_)
  refine rw_t 12 rfl rfl rfl (do_move rfl ?_)
  refine rw_t 16 rfl rfl rfl (do_extract rfl rfl ?_)
  refine rw_t 17 rfl rfl rfl (do_extract rfl rfl ?_)
  refine rw_t 6 rfl rfl rfl (do_assign rfl ?_)
  refine rw_t 7 rfl rfl rfl (do_assign rfl ?_)
  refine rw_nil ?_
  refine w_seq ?_
  have hel : (excR n f).1.length = n.N.toNat := by rw [exc_pos (And.left ‹zeroP n f n.S n.T›)]; exact exL_len _ _ _
  refine w_region ?_
  refine rw_t 18 rfl rfl rfl (do_move rfl ?_)
  refine rw_t 19 rfl rfl rfl (do_fieldaddr rfl ?_)
  refine rw_t 20 rfl rfl rfl (do_load_box rfl rfl rfl ?_)
  refine rw_t 21 rfl rfl rfl (do_ix0 rfl rfl rfl (by first | omega | (simp only [ls] <;> omega)) ?_)
  refine rw_t 22 rfl rfl rfl (do_load_arr rfl rfl (by first | omega | (simp only [ls] <;> omega)) rfl ?_)
  refine rw_t 23 rfl rfl rfl (do_move rfl ?_)
  refine rw_t 4 rfl rfl rfl (do_assign rfl ?_)
  refine rw_t 5 rfl rfl rfl (do_assign rfl ?_)
  refine rw_nil ?_
  refine w_ret ?_
  exact ret_eq (.inl rfl) (.cons (res_tmp rfl) (.cons (res_tmp rfl) .nil)) [0, 1] (by rw [val_pos ‹zeroP n f n.S n.T›]; rfl) ⟨shR rfl, shR rfl, trivial⟩ rfl (pre_ok rfl)
end Go.Proofs

set_option linter.unusedVariables false
set_option linter.unusedSimpArgs false
namespace Go.Proofs
open Go Go.Sx Go.RowKit
/-- What is left of the first arcs. -/
def resT (c : Csr) (f : List Int) (i : Nat) : List Int := tab c.Head.length (fun j => if j < i then resAt c f j else 0)
theorem resT_len (c : Csr) (f : List Int) (i : Nat) : (resT c f i).length = c.Head.length := tab_len _ _
theorem resT_zero (c : Csr) (f : List Int) : resT c f 0 = List.replicate c.Head.length 0 := by
  rw [tab_const]; exact tab_congr fun j _ => if_neg (by omega)
theorem resT_all (c : Csr) (f : List Int) : resT c f c.Head.length = resOf c f c.Head.length := by
  unfold resT tab resOf
  exact List.map_congr_left fun j hj => if_pos (List.mem_range.1 hj)
theorem resT_next {c : Csr} {f : List Int} {i : Nat} (hi : i < c.Head.length) {x : Int} (hx : resAt c f i = x) : resT c f (i + 1) = (resT c f i).set i x := by
  unfold resT
  rw [tab_set]
  refine tab_congr fun j hj => ?_
  by_cases h : j = i
  · subst h; rw [if_pos (by omega), if_pos rfl, hx]
  · rw [if_neg h]
    by_cases h2 : j < i
    · rw [if_pos h2, if_pos (by omega)]
    · rw [if_neg h2, if_neg (by omega)]
theorem most_fwd {c : Csr} (h : CsrQ c) {a : Nat} (ha : a < c.Head.length) (hb : c.Back.getD a false = false) : mostOf c a = c.Cap.getD a 0 := by
  have hr := h.rv a ha
  have hbk := h.rbk a ha
  rw [hb] at hbk
  have := h.capb (c.Rev.getD a 0).toNat (by omega) hbk
  unfold mostOf; omega
/-- A vertex met. -/
def meetS (s : List Bool × List Int) (v : Int) : List Bool × List Int := if s.1.getD v.toNat false = true then s else (s.1.set v.toNat true, s.2 ++ [v])
def arcS (c : Csr) (res : List Int) (u : Int) (s : List Bool × List Int) : Nat → List Bool × List Int
  | 0 => s
  | j + 1 => if res.getD (c.Rev.getD (c.First.getD u.toNat 0 + j).toNat 0).toNat 0 > 0 then meetS (arcS c res u s j) (c.Head.getD (c.First.getD u.toNat 0 + j).toNat 0) else arcS c res u s j
def bfsS (c : Csr) (res : List Int) (t : Int) : Nat → List Bool × List Int
  | 0 => ((List.replicate c.N.toNat false).set t.toNat true, [t])
  | i + 1 => if i < (bfsS c res t i).2.length then arcS c res ((bfsS c res t i).2.getD i 0) (bfsS c res t i) (manyOf c ((bfsS c res t i).2.getD i 0)) else bfsS c res t i
structure BfsOK (c : Csr) (s : List Bool × List Int) : Prop where
  len : s.1.length = c.N.toNat
  nodup : s.2.Nodup
  inr : ∀ v ∈ s.2, 0 ≤ v ∧ v < c.N
  both : ∀ v : Nat, v < c.N.toNat → (s.1.getD v false = true ↔ (v : Int) ∈ s.2)
theorem nodup_len : ∀ {N : Nat} {l : List Int}, l.Nodup → (∀ v ∈ l, 0 ≤ v ∧ v < (N : Int)) → l.length ≤ N
  | 0, [], _, _ => Nat.le_refl 0
  | 0, a :: l, _, h => by have := h a (by simp); omega
  | N + 1, l, h1, h2 => by
    have ih : (l.erase (N : Int)).length ≤ N := nodup_len (h1.erase _) (fun v hv => by
      have q := h2 v (List.mem_of_mem_erase hv)
      have q2 : v ≠ (N : Int) := fun e => by subst e; exact (List.Nodup.not_mem_erase h1) hv
      omega)
    have hl := List.length_erase (a := (N : Int)) (l := l)
    split at hl <;> omega
theorem BfsOK.small {c : Csr} (hn : 0 ≤ c.N) {s : List Bool × List Int} (h : BfsOK c s) : s.2.length ≤ c.N.toNat := nodup_len h.nodup (fun v hv => by have := h.inr v hv; omega)
theorem meet_ok {c : Csr} {s : List Bool × List Int} (h : BfsOK c s) {v : Int} (hv : 0 ≤ v ∧ v < c.N) : BfsOK c (meetS s v) ∧ (∃ r, (meetS s v).2 = s.2 ++ r) ∧ v ∈ (meetS s v).2 := by
  unfold meetS
  have hb := h.both v.toNat (by omega)
  rw [show ((v.toNat : Nat) : Int) = v by omega] at hb
  by_cases hq : s.1.getD v.toNat false = true
  · rw [if_pos hq]; exact ⟨h, ⟨[], by simp⟩, hb.1 hq⟩
  · rw [if_neg hq]
    refine ⟨⟨by rw [List.length_set]; exact h.len, ?_, ?_, ?_⟩, ⟨[v], rfl⟩, by simp⟩
    · rw [List.nodup_append]
      refine ⟨h.nodup, by simp, fun x hx y hy hxy => ?_⟩
      rw [List.mem_singleton] at hy
      exact hq (hb.2 (by rw [← hy, ← hxy]; exact hx))
    · intro x hx
      rcases List.mem_append.1 hx with hx | hx
      · exact h.inr x hx
      · rw [List.mem_singleton] at hx; subst hx; exact hv
    · intro x hx
      rw [List.mem_append, List.mem_singleton]
      have hbx := h.both x hx
      by_cases e : v.toNat = x
      · subst e
        constructor
        · intro _; exact .inr (by omega)
        · intro _; simp [List.getD, show v.toNat < s.1.length by rw [h.len]; omega]
      · have e1 : (s.1.set v.toNat true).getD x false = s.1.getD x false := by simp only [List.getD]; rw [List.getElem?_set_ne e]
        rw [e1, hbx]
        exact ⟨.inl, fun w => w.resolve_right (by omega)⟩
theorem arc_ok {c : Csr} (h : CsrG c) (res : List Int) {u : Int} (hu : 0 ≤ u ∧ u < c.N) {s : List Bool × List Int} (hs : BfsOK c s) : ∀ j, j ≤ manyOf c u → BfsOK c (arcS c res u s j) ∧ ∃ r, (arcS c res u s j).2 = s.2 ++ r
  | 0, _ => ⟨hs, [], by simp [arcS]⟩
  | j + 1, hj => by
    obtain ⟨i1, r, i2⟩ := arc_ok h res hu hs j (by omega)
    obtain ⟨m1, m2, m3⟩ := many_arc h.toCsrT hu (show j < manyOf c u by omega)
    simp only [arcS]
    split
    · obtain ⟨k1, ⟨r', k2⟩, -⟩ := meet_ok i1 (h.hd (c.First.getD u.toNat 0 + j).toNat (by omega))
      exact ⟨k1, r ++ r', by rw [k2, i2, List.append_assoc]⟩
    · exact ⟨i1, r, i2⟩
theorem bfs_ok {c : Csr} (h : CsrG c) (res : List Int) {t : Int} (ht : 0 ≤ t ∧ t < c.N) : ∀ i, BfsOK c (bfsS c res t i)
  | 0 => by
    refine ⟨by simp [bfsS], by simp [bfsS], fun v hv => ?_, fun v hv => ?_⟩
    · simp only [bfsS, List.mem_singleton] at hv; subst hv; exact ht
    · simp only [bfsS, List.mem_singleton]
      by_cases e : t.toNat = v
      · subst e
        constructor
        · intro _; omega
        · intro _; simp [List.getD, hv]
      · have e1 : ((List.replicate c.N.toNat false).set t.toNat true).getD v false = (List.replicate c.N.toNat false).getD v false := by simp only [List.getD]; rw [List.getElem?_set_ne e]
        rw [e1]
        constructor
        · intro q; simp [List.getD, hv] at q
        · intro q; omega
  | i + 1 => by
    have ih := bfs_ok h res ht i
    simp only [bfsS]
    split
    · rename_i hi
      exact (arc_ok h res (ih.inr _ (getD_mem 0 hi)) ih _ (Nat.le_refl _)).1
    · exact ih
theorem bfs_stop {c : Csr} {res : List Int} {t : Int} {i : Nat} (hi : ¬ i < (bfsS c res t i).2.length) : ∀ j, bfsS c res t (i + j) = bfsS c res t i
  | 0 => rfl
  | j + 1 => by
    rw [show i + (j + 1) = (i + j) + 1 from rfl]
    simp only [bfsS]
    rw [bfs_stop hi j, if_neg (by omega)]
def metL (c : Csr) (res : List Int) (t : Int) : List Bool := (bfsS c res t c.N.toNat).1
theorem bfs_end {c : Csr} {res : List Int} {t : Int} {i : Nat} (hi : ¬ i < (bfsS c res t i).2.length) (hN : i ≤ c.N.toNat) : metL c res t = (bfsS c res t i).1 := by
  have := bfs_stop hi (c.N.toNat - i)
  rw [show i + (c.N.toNat - i) = c.N.toNat by omega] at this
  unfold metL; rw [this]
def sideL (c : Csr) (res : List Int) (t : Int) : List Bool := tab c.N.toNat (fun v => !(metL c res t).getD v false)
end Go.Proofs

set_option linter.unusedVariables false
set_option linter.unusedSimpArgs false
namespace Go.Proofs
open Go Go.Sx Go.RowKit
set_option maxHeartbeats 8000000 in
set_option synthInstance.maxHeartbeats 400000 in
set_option synthInstance.maxSize 2000 in
theorem t_pRes (c : Csr) (h : CsrQ c) (f : List Int) (hf : ResIn c f) (hl : f.length ≤ 9223372036854775807) : Tri Try.prog 85 [.agg [.val (.int .i64 c.N), .val (.int .i64 c.S), .val (.int .i64 c.T), .slc 0 0 c.First.length none, .slc 1 0 c.Head.length none, .slc 2 0 c.Rev.length none, .slc 3 0 c.Cap.length none, .slc 4 0 c.Arc.length none, .slc 5 0 c.Back.length none], .slc 6 0 f.length none] [SO.ints false .i64 c.First, SO.ints false .i64 c.Head, SO.ints false .i64 c.Rev, SO.ints false .i64 c.Cap, SO.ints false .i64 c.Arc, SO.bools false c.Back, SO.ints false .i64 f] (fun s H => s = .tup [.slc 7 0 ((resOf c f c.Head.length).length) none, .val (.int .i64 0)] ∧ H = [SO.ints false .i64 c.First, SO.ints false .i64 c.Head, SO.ints false .i64 c.Rev, SO.ints false .i64 c.Cap, SO.ints false .i64 c.Arc, SO.bools false c.Back, SO.ints false .i64 f, SO.ints true .i64 (resOf c f c.Head.length)]) := by
  refine tri_of_w (fn := Try.f85) Try.func85 rfl (by simp [Try.f85]) ?_
  intro ρ w hρ
  refine w_seq ?_
  have hg := h.toCsrG
  have hhl := hg.small
  have hN := hg.n
  have hS := hg.s
  have hT := hg.t
  have hcl := hg.cap
  have hal := hg.arc
  have hbl := hg.back
  have hrl := hg.rev
  refine w_region ?_
  refine rw_t 2 rfl rfl rfl (n_box_agg (n := 7) rfl rfl ?_)
  refine rw_t 4 rfl rfl rfl (do_assign rfl ?_)
  refine rw_t 5 rfl rfl rfl (do_assign rfl ?_)
  refine rw_nil ?_
  refine w_seq ?_
  refine w_region ?_
  refine rw_t 9 rfl rfl rfl (n_load_boxagg [_, _, _, _, _, _, _, _, _] rfl rfl (Nat.le_of_ble_eq_true rfl) rfl ?_)
  refine rw_t 10 rfl rfl rfl (do_callR (X' := .val (.int .i64 ((c.Head.length : Nat) : Int))) rfl rfl (t_Len (c := c)) [0, 1, 2, 3, 4, 5] ⟨.inr ⟨_, rfl, srv⟩, .inr ⟨_, rfl, srv⟩, .inr ⟨_, rfl, srv⟩, .inr ⟨_, rfl, srv⟩, .inr ⟨_, rfl, srv⟩, .inr ⟨_, rfl, srv⟩, trivial⟩ rfl rfl rfl ?_)
  refine rw_t 11 rfl rfl rfl (n_make (nm := 8) Int (encI .i64) 0 rfl rfl rfl (fun _ => rfl) (fun _ _ h => by simp [encI] at h; subst h; rfl) (by omega) (by omega) (by omega) rfl ?_)
  refine rw_cap 11 rfl ?_
  refine rw_t 6 rfl rfl rfl (do_assign rfl ?_)
  refine rw_nil ?_
  refine w_seq ?_
  refine w_seq ?_
  refine w_region ?_
  refine rw_t 12 rfl rfl rfl (do_move rfl ?_)
  refine rw_t 13 rfl rfl rfl (do_len rfl ?_)
  refine rw_t 14 rfl rfl rfl (do_move rfl ?_)
  refine rw_nil ?_
  refine w_block ?_
  refine w_loopS (ι := Nat) (fun i => [(1, .slc 6 0 f.length none), (2, .ptr 7 0 0), (6, .slc 8 0 (((c.Head.length : Nat) : Int).toNat) none), (13, .val (.int .i64 ((((c.Head.length : Nat) : Int).toNat : Nat) : Int))), (14, .val (.int .i64 ((i : Nat) : Int)))]) (fun i => [SO.ints false .i64 c.First, SO.ints false .i64 c.Head, SO.ints false .i64 c.Rev, SO.ints false .i64 c.Cap, SO.ints false .i64 c.Arc, SO.bools false c.Back, SO.ints false .i64 f, .box [.val (.int .i64 c.N), .val (.int .i64 c.S), .val (.int .i64 c.T), .slc 0 0 c.First.length none, .slc 1 0 c.Head.length none, .slc 2 0 c.Rev.length none, .slc 3 0 c.Cap.length none, .slc 4 0 c.Arc.length none, .slc 5 0 c.Back.length none], SO.ints true .i64 (resT c f i)]) (fun i => c.Head.length - i) (fun i => i ≤ c.Head.length) (0) [0, 1, 2, 3, 4, 5, 6, 7, 8] (by simp) ⟨shR rfl, shR rfl, shR rfl, shR rfl, shR rfl, shR rfl, shR rfl, shR rfl, .inr ⟨_, rfl, .inl (congrArg (SO.ints true .i64) (resT_zero c f))⟩, trivial⟩ rfl (pre_ok rfl) hρ ⟨⟨_, rfl, rfl⟩, ⟨_, rfl, rfl⟩, ⟨_, rfl, rfl⟩, ⟨_, rfl, rfl⟩, ⟨_, rfl, rfl⟩, trivial⟩ ?_
  intro i hi
  refine w_seq ?_
  refine w_region ?_
  refine rw_t 15 rfl rfl rfl (do_bin rfl rfl rfl ?_)
  refine rw_nil ?_
  refine w_seq ?_
  refine w_cond rfl (fun hc1 => ?_) (fun hc1 => ?_)
  all_goals try simp only [bs] at hc1
  rotate_left
  · refine w_exit ?_
    refine w_seq ?_
    refine w_region ?_
    refine rw_t 72 rfl rfl rfl (do_move rfl ?_)
    refine rw_t 4 rfl rfl rfl (do_assign rfl ?_)
    refine rw_t 5 rfl rfl rfl (do_assign rfl ?_)
    refine rw_nil ?_
    have hi' : i = c.Head.length := by omega
    subst hi'
    refine w_ret ?_
    exact ret_eq (.inl rfl) (.cons (res_tmp rfl) (.cons (res_tmp rfl) .nil)) [0, 1, 2, 3, 4, 5, 6, 8] (congrArg (fun k => SV.tup [SV.slc 8 0 k Option.none, .val (.int .i64 0)]) (show c.Head.length = (resOf c f c.Head.length).length by simp [resOf])) ⟨shR rfl, shR rfl, shR rfl, shR rfl, shR rfl, shR rfl, shR rfl, .inr ⟨_, rfl, .inl (congrArg (SO.ints true .i64) ((resT_all c f).symm))⟩, trivial⟩ rfl (pre_ok rfl)
  refine w_skip ?_
  refine w_seq ?_
  refine w_block ?_
  refine w_seq ?_
  have hra := hf.arc i (by omega)
  have hrf := hf.flow i (by omega)
  have hcp := hg.cp i (by omega)
  have hrt := resT_len c f i
  have hfa : flowAt c f i = f.getD (c.Arc.getD i 0).toNat 0 := rfl
  refine w_region ?_
  refine rw_t 16 rfl rfl rfl (do_move rfl ?_)
  refine rw_t 7 rfl rfl rfl (do_assign rfl ?_)
  refine rw_nil ?_
  refine w_seq ?_
  refine w_region ?_
  refine rw_t 17 rfl rfl rfl (do_fieldaddr rfl ?_)
  refine rw_t 18 rfl rfl rfl (do_load_box rfl rfl rfl ?_)
  refine rw_t 19 rfl rfl rfl (do_move rfl ?_)
  refine rw_t 20 rfl rfl rfl (do_ixn rfl rfl rfl (by first | omega | (simp only [ls] <;> omega)) ?_)
  refine rw_t 21 rfl rfl rfl (do_load_arr rfl rfl (by first | omega | (simp only [ls] <;> omega)) rfl ?_)
  refine rw_t 8 rfl rfl rfl (do_assign rfl ?_)
  refine rw_nil ?_
  refine w_block ?_
  refine w_seq ?_
  refine w_region ?_
  refine rw_t 36 rfl rfl rfl (do_move rfl ?_)
  refine rw_t 37 rfl rfl rfl (do_move rfl ?_)
  refine rw_t 38 rfl rfl rfl (do_len rfl ?_)
  refine rw_t 39 rfl rfl rfl (do_bin rfl rfl rfl ?_)
  refine rw_t 35 rfl rfl rfl (do_assign rfl ?_)
  refine rw_nil ?_
  refine w_cond rfl (fun hc2 => ?_) (fun hc2 => ?_)
  · exfalso; first | (cases hc2; done) | exact (hc2 trivial) | (try simp only [bs] at hc2; first | omega | (simp_all; done) | (simp_all; omega))
  refine w_seq ?_
  refine w_region ?_
  refine rw_t 41 rfl rfl rfl (do_fieldaddr rfl ?_)
  refine rw_t 42 rfl rfl rfl (do_load_box rfl rfl rfl ?_)
  refine rw_t 43 rfl rfl rfl (do_move rfl ?_)
  refine rw_t 44 rfl rfl rfl (do_ixn rfl rfl rfl (by first | omega | (simp only [ls] <;> omega)) ?_)
  refine rw_t 45 rfl rfl rfl (do_load_arr rfl rfl (by first | omega | (simp only [ls] <;> omega)) rfl ?_)
  refine rw_t 40 rfl rfl rfl (do_assign rfl ?_)
  refine rw_nil ?_
  refine w_cond rfl (fun hc3 => ?_) (fun hc3 => ?_)
  all_goals try simp only [bs] at hc3
  · -- region 10
    refine w_region ?_
    refine rw_t 46 rfl rfl rfl (do_move rfl ?_)
    refine rw_t 47 rfl rfl rfl (do_move rfl ?_)
    refine rw_t 48 rfl rfl rfl (do_move rfl ?_)
    refine rw_t 49 rfl rfl rfl (do_move rfl ?_)
    refine rw_t 50 rfl rfl rfl (do_ix0 rfl rfl rfl (by first | omega | (simp only [ls] <;> omega)) ?_)
    refine rw_t 51 rfl rfl rfl (do_load_arr rfl rfl (by first | omega | (simp only [ls] <;> omega)) rfl ?_)
    refine rw_t 52 rfl rfl rfl (do_ixn rfl rfl rfl (by first | omega | (simp only [ls] <;> omega)) ?_)
    refine rw_u rfl rfl (n_store_arr (z := (f.getD ((c.Arc.getD i 0).toNat) 0)) rfl rfl rfl (by first | omega | (simp only [ls] <;> omega)) rfl (by decide) rfl ?_)
    refine rw_nil ?_
    refine w_region ?_
    refine rw_t 71 rfl rfl rfl (do_add rfl rfl (by omega) ?_)
    refine rw_t 14 rfl rfl rfl (do_move rfl ?_)
    refine rw_nil ?_
    refine ⟨i + 1, [0, 1, 2, 3, 4, 5, 6, 7, 8], by dsimp only; omega, by omega, ⟨shR rfl, shR rfl, shR rfl, shR rfl, shR rfl, shR rfl, shR rfl, shR rfl, .inr ⟨_, rfl, .inl (congrArg (SO.ints true .i64) (resT_next (by omega) (by unfold resAt; rw [if_pos ‹c.Back.getD i false = true›]; rfl)))⟩, trivial⟩, rfl, pre_ok rfl, ⟨⟨_, rfl, rfl⟩, ⟨_, rfl, rfl⟩, ⟨_, rfl, rfl⟩, ⟨_, rfl, rfl⟩, ⟨_, rfl, rfl⟩, trivial⟩⟩
  · have hbf : c.Back.getD i false = false := ‹c.Back.getD i false = false›
    have hmf := most_fwd h (show i < c.Head.length by omega) hbf
    refine w_seqB 53 (((f.getD ((c.Arc.getD i 0).toNat) 0) < 0 ∨ (f.getD ((c.Arc.getD i 0).toNat) 0) > (c.Cap.getD i 0))) ?_ ?_
    · -- region 11
      refine w_draw mixed [0, 0, 3, 7, 15, 31, 63, 63, 255, 511, 63, 1087, 63, 7231, 15423] [32767, 65535, 131071] (by kernel_rfl) (by kernel_rfl) rfl rfl rfl (hle hρ rfl) ?_
      refine ra_q (j := 0) rfl rfl rfl rfl (do_move rfl ⟨rfl, rfl⟩) (by rfl) ?_
      refine ra_q (j := 1) rfl rfl rfl rfl (do_move rfl ⟨rfl, rfl⟩) (by rfl) ?_
      refine ra_q (j := 2) rfl rfl rfl rfl (do_ix0 rfl rfl rfl (by first | omega | (simp only [ls] <;> omega)) ⟨rfl, rfl⟩) (by rfl) ?_
      refine ra_q (j := 3) rfl rfl rfl rfl (do_load_arr rfl rfl (by first | omega | (simp only [ls] <;> omega)) rfl ⟨rfl, rfl⟩) (by rfl) ?_
      refine ra_q (j := 4) rfl rfl rfl rfl (do_bin rfl rfl rfl ⟨rfl, rfl⟩) (by rfl) ?_
      refine ra_q (j := 5) rfl rfl rfl rfl (do_move rfl ⟨rfl, rfl⟩) (by rfl) ?_
      refine ra_case 59 rfl (fun g1 => ?_) (fun g1 => ?_)
      · have kg1 := g1
        try simp only [bs] at kg1
        refine ra_gf (j := 6) rfl rfl rfl rfl (by rw [g1]; decide) rfl rfl rfl ?_
        refine ra_gf (j := 7) rfl rfl rfl rfl (by rw [g1]; decide) rfl rfl rfl ?_
        refine ra_gf (j := 8) rfl rfl rfl rfl (by rw [g1]; decide) rfl rfl rfl ?_
        refine ra_gf (j := 9) rfl rfl rfl rfl (by rw [g1]; decide) rfl rfl rfl ?_
        refine ra_gf (j := 10) rfl rfl rfl rfl (by rw [g1]; decide) rfl rfl rfl ?_
        refine ra_gf (j := 11) rfl rfl rfl rfl (by rw [g1]; decide) rfl rfl rfl ?_
        refine ra_gf (j := 12) rfl rfl rfl rfl (by rw [g1]; decide) rfl rfl rfl ?_
        refine ra_gf (j := 13) rfl rfl rfl rfl (by rw [g1]; decide) rfl rfl rfl ?_
        refine ra_gf (j := 14) rfl rfl rfl rfl (by rw [g1]; decide) rfl rfl rfl ?_
        refine n_done ?_
        refine rw_gf 69 5 59 false rfl rfl rfl rfl rfl rfl (by rw [g1]; decide) ?_
        refine rw_t 70 rfl rfl rfl (do_pick_t rfl g1 rfl ?_)
        refine rw_t 53 rfl rfl rfl (do_assign rfl ?_)
        refine rw_nil ?_
        refine ⟨rfl, ⟨_, rfl, by first | (simp; done) | (simp only [bs]; omega) | (simp [*]; done) | (simp; omega) | (constructor <;> intro h <;> simp_all <;> omega)⟩, ?_⟩
        repeat (refine ⟨⟨_, rfl, rfl⟩, ?_⟩)
        exact trivial
      · have kg1 := g1
        try simp only [bs] at kg1
        refine ra_gt (j := 6) rfl rfl rfl rfl g1 rfl rfl rfl (do_move rfl ⟨rfl, rfl⟩) (by rfl) ?_
        refine ra_gt (j := 7) rfl rfl rfl rfl g1 rfl rfl rfl (do_move rfl ⟨rfl, rfl⟩) (by rfl) ?_
        refine ra_gt (j := 8) rfl rfl rfl rfl g1 rfl rfl rfl (do_ix0 rfl rfl rfl (by first | omega | (simp only [ls] <;> omega)) ⟨rfl, rfl⟩) (by rfl) ?_
        refine ra_gt (j := 9) rfl rfl rfl rfl g1 rfl rfl rfl (do_load_arr rfl rfl (by first | omega | (simp only [ls] <;> omega)) rfl ⟨rfl, rfl⟩) (by rfl) ?_
        refine ra_gt (j := 10) rfl rfl rfl rfl g1 rfl rfl rfl (do_fieldaddr rfl ⟨rfl, rfl⟩) (by rfl) ?_
        refine ra_gt (j := 11) rfl rfl rfl rfl g1 rfl rfl rfl (do_load_box rfl rfl rfl ⟨rfl, rfl⟩) (by rfl) ?_
        refine ra_gt (j := 12) rfl rfl rfl rfl g1 rfl rfl rfl (do_move rfl ⟨rfl, rfl⟩) (by rfl) ?_
        refine ra_gt (j := 13) rfl rfl rfl rfl g1 rfl rfl rfl (do_ixn rfl rfl rfl (by first | omega | (simp only [ls] <;> omega)) ⟨rfl, rfl⟩) (by rfl) ?_
        refine ra_gt (j := 14) rfl rfl rfl rfl g1 rfl rfl rfl (do_load_arr rfl rfl (by first | omega | (simp only [ls] <;> omega)) rfl ⟨rfl, rfl⟩) (by rfl) ?_
        refine n_done ?_
        refine rw_gt 69 5 59 false rfl rfl rfl rfl rfl rfl g1 (do_bin rfl rfl rfl ?_)
        refine rw_t 70 rfl rfl rfl (do_pick_f rfl g1 rfl ?_)
        refine rw_t 53 rfl rfl rfl (do_assign rfl ?_)
        refine rw_nil ?_
        refine ⟨rfl, ⟨_, rfl, by first | (simp; done) | (simp only [bs]; omega) | (simp [*]; done) | (simp; omega) | (constructor <;> intro h <;> simp_all <;> omega)⟩, ?_⟩
        repeat (refine ⟨⟨_, rfl, rfl⟩, ?_⟩)
        exact trivial
    intro b1 hb1
    refine w_condP hb1 rfl (fun hc4 => ?_) (fun hc4 => ?_)
    · exfalso; first | (cases hc4; done) | exact (hc4 trivial) | (try simp only [bs] at hc4; first | omega | (simp_all; done) | (simp_all; omega))
    have hbf : c.Back.getD i false = false := ‹c.Back.getD i false = false›
    have hmf := most_fwd h (show i < c.Head.length by omega) hbf
    refine w_draw mixed [0, 0, 0, 4, 0, 28, 60, 0, 0, 384, 896, 2044] [4095, 8191] (by kernel_rfl) (by kernel_rfl) rfl rfl rfl (hle hρ rfl) ?_
    refine ra_q (j := 0) rfl rfl rfl rfl (do_move rfl ⟨rfl, rfl⟩) (by rfl) ?_
    refine ra_q (j := 1) rfl rfl rfl rfl (do_move rfl ⟨rfl, rfl⟩) (by rfl) ?_
    refine ra_q (j := 2) rfl rfl rfl rfl (do_fieldaddr rfl ⟨rfl, rfl⟩) (by rfl) ?_
    refine ra_q (j := 3) rfl rfl rfl rfl (do_load_box rfl rfl rfl ⟨rfl, rfl⟩) (by rfl) ?_
    refine ra_q (j := 4) rfl rfl rfl rfl (do_move rfl ⟨rfl, rfl⟩) (by rfl) ?_
    refine ra_q (j := 5) rfl rfl rfl rfl (do_ixn rfl rfl rfl (by first | omega | (simp only [ls] <;> omega)) ⟨rfl, rfl⟩) (by rfl) ?_
    refine ra_q (j := 6) rfl rfl rfl rfl (do_load_arr rfl rfl (by first | omega | (simp only [ls] <;> omega)) rfl ⟨rfl, rfl⟩) (by rfl) ?_
    refine ra_q (j := 7) rfl rfl rfl rfl (do_move rfl ⟨rfl, rfl⟩) (by rfl) ?_
    refine ra_q (j := 8) rfl rfl rfl rfl (do_move rfl ⟨rfl, rfl⟩) (by rfl) ?_
    refine ra_q (j := 9) rfl rfl rfl rfl (do_ix0 rfl rfl rfl (by first | omega | (simp only [ls] <;> omega)) ⟨rfl, rfl⟩) (by rfl) ?_
    refine ra_q (j := 10) rfl rfl rfl rfl (do_load_arr rfl rfl (by first | omega | (simp only [ls] <;> omega)) rfl ⟨rfl, rfl⟩) (by rfl) ?_
    refine ra_q (j := 11) rfl rfl rfl rfl (do_sub rfl rfl (by omega) ⟨rfl, rfl⟩) (by rfl) ?_
    refine n_done ?_
    refine rw_t 34 rfl rfl rfl (do_ixn rfl rfl rfl (by first | omega | (simp only [ls] <;> omega)) ?_)
    refine rw_u rfl rfl (n_store_arr (z := ((c.Cap.getD i 0) - (f.getD ((c.Arc.getD i 0).toNat) 0))) rfl rfl rfl (by first | omega | (simp only [ls] <;> omega)) rfl (by decide) rfl ?_)
    refine rw_nil ?_
    refine w_region ?_
    refine rw_t 71 rfl rfl rfl (do_add rfl rfl (by omega) ?_)
    refine rw_t 14 rfl rfl rfl (do_move rfl ?_)
    refine rw_nil ?_
    refine ⟨i + 1, [0, 1, 2, 3, 4, 5, 6, 7, 8], by dsimp only; omega, by omega, ⟨shR rfl, shR rfl, shR rfl, shR rfl, shR rfl, shR rfl, shR rfl, shR rfl, .inr ⟨_, rfl, .inl (congrArg (SO.ints true .i64) (resT_next (by omega) (by unfold resAt; rw [if_neg (by rw [hbf]; decide), hmf]; rfl)))⟩, trivial⟩, rfl, pre_ok rfl, ⟨⟨_, rfl, rfl⟩, ⟨_, rfl, rfl⟩, ⟨_, rfl, rfl⟩, ⟨_, rfl, rfl⟩, ⟨_, rfl, rfl⟩, trivial⟩⟩
set_option maxHeartbeats 8000000 in
set_option synthInstance.maxHeartbeats 400000 in
set_option synthInstance.maxSize 2000 in
theorem t_left (n : Net) (hsm : Small n) (f : List Int) (hf : withinP n f) (hl : f.length ≤ 9223372036854775807) : Tri Try.prog 67 [.agg [.val (.int .i64 n.N), .val (.int .i64 n.S), .val (.int .i64 n.T), .slc 0 0 n.arcs.length none], .slc 1 0 f.length none] [SO.arcs false n.arcs, SO.ints false .i64 f] (fun s H => s = .tup [.agg [.val (.int .i64 ((makeC n).N)), .val (.int .i64 ((makeC n).S)), .val (.int .i64 ((makeC n).T)), .slc 2 0 ((makeC n).First.length) none, .slc 3 0 ((makeC n).Head.length) none, .slc 4 0 ((makeC n).Rev.length) none, .slc 5 0 ((makeC n).Cap.length) none, .slc 6 0 ((makeC n).Arc.length) none, .slc 7 0 ((makeC n).Back.length) none], .slc 8 0 ((resOf (makeC n) f (makeC n).Head.length).length) none, .val (.int .i64 0)] ∧ H = [SO.arcs false n.arcs, SO.ints false .i64 f, SO.ints true .i64 ((makeC n).First), SO.ints true .i64 ((makeC n).Head), SO.ints true .i64 ((makeC n).Rev), SO.ints true .i64 ((makeC n).Cap), SO.ints true .i64 ((makeC n).Arc), SO.bools true ((makeC n).Back), SO.ints true .i64 (resOf (makeC n) f (makeC n).Head.length)]) := by
  refine tri_of_w (fn := Try.f67) Try.func67 rfl (by simp [Try.f67]) ?_
  intro ρ w hρ
  refine w_seq ?_
  have hcq := make_q hsm
  have hri := res_in hsm.toNetOK hf.1 hf.2
  refine w_region ?_
  refine rw_t 2 rfl rfl rfl (n_box_agg (n := 2) rfl rfl ?_)
  refine rw_t 4 rfl rfl rfl (n_alloc (n := 3) rfl ?_)
  refine rw_t 5 rfl rfl rfl (do_assign rfl ?_)
  refine rw_t 6 rfl rfl rfl (do_assign rfl ?_)
  refine rw_nil ?_
  refine w_seq ?_
  refine w_seq ?_
  refine w_region ?_
  refine rw_t 10 rfl rfl rfl (n_load_boxagg [_, _, _, _] rfl rfl (Nat.le_of_ble_eq_true rfl) rfl ?_)
  refine rw_t 11 rfl rfl rfl (do_move rfl ?_)
  refine rw_t 12 rfl rfl rfl (do_callR (X' := .val (.bool (decide (withinP n f)))) rfl rfl (t_Within (n := n) (f := f) (hsm.toNetOK) (hl)) [0, 1] ⟨.inr ⟨_, rfl, srv⟩, .inr ⟨_, rfl, srv⟩, trivial⟩ rfl rfl rfl ?_)
  refine rw_t 13 rfl rfl rfl (do_not rfl ?_)
  refine rw_nil ?_
  refine w_cond rfl (fun hc1 => ?_) (fun hc1 => ?_)
  · exfalso; simp [hf] at hc1
  refine w_skip ?_
  refine w_seq ?_
  refine w_region ?_
  refine rw_t 16 rfl rfl rfl (n_load_boxagg [_, _, _, _] rfl rfl (Nat.le_of_ble_eq_true rfl) rfl ?_)
  refine rw_t 17 rfl rfl rfl (n_callN (X' := .tup [.agg [.val (.int .i64 ((makeC n).N)), .val (.int .i64 ((makeC n).S)), .val (.int .i64 ((makeC n).T)), .slc 4 0 ((makeC n).First.length) none, .slc 5 0 ((makeC n).Head.length) none, .slc 6 0 ((makeC n).Rev.length) none, .slc 7 0 ((makeC n).Cap.length) none, .slc 8 0 ((makeC n).Arc.length) none, .slc 9 0 ((makeC n).Back.length) none], .val (.int .i64 0)]) (N' := [SO.ints true .i64 ((makeC n).First), SO.ints true .i64 ((makeC n).Head), SO.ints true .i64 ((makeC n).Rev), SO.ints true .i64 ((makeC n).Cap), SO.ints true .i64 ((makeC n).Arc), SO.bools true ((makeC n).Back)]) rfl rfl (t_pMake (n := n) (hsm.toNetOK)) [0] ⟨.inr ⟨_, rfl, srv⟩, trivial⟩ rfl rfl rfl rfl rfl ?_)
  refine rw_t 15 rfl rfl rfl (do_move rfl ?_)
  refine rw_t 18 rfl rfl rfl (do_extract rfl rfl ?_)
  refine rw_t 19 rfl rfl rfl (do_extract rfl rfl ?_)
  refine rw_t 7 rfl rfl rfl (n_alloc (n := 10) rfl ?_)
  refine rw_u rfl rfl (n_store_whole rfl rfl rfl rfl rfl rfl ?_)
  refine rw_t 8 rfl rfl rfl (do_assign rfl ?_)
  refine rw_nil ?_
  refine w_seq ?_
  refine w_seq ?_
  refine w_region ?_
  refine rw_t 20 rfl rfl rfl (do_move rfl ?_)
  refine rw_t 21 rfl rfl rfl (do_bin rfl rfl rfl ?_)
  refine rw_nil ?_
  refine w_cond rfl (fun hc2 => ?_) (fun hc2 => ?_)
  · exfalso; simp at hc2
  refine w_skip ?_
  refine w_seq ?_
  refine w_region ?_
  refine rw_t 25 rfl rfl rfl (n_load_boxagg [_, _, _, _, _, _, _, _, _] rfl rfl (Nat.le_of_ble_eq_true rfl) rfl ?_)
  refine rw_t 26 rfl rfl rfl (do_move rfl ?_)
  refine rw_t 27 rfl rfl rfl (n_callN (X' := .tup [.slc 11 0 ((resOf (makeC n) f (makeC n).Head.length).length) none, .val (.int .i64 0)]) (N' := [SO.ints true .i64 (resOf (makeC n) f (makeC n).Head.length)]) rfl rfl (t_pRes (c := (makeC n)) (f := f) (hcq) (hri) (hl)) [4, 5, 6, 7, 8, 9, 1] ⟨.inr ⟨_, rfl, srv⟩, .inr ⟨_, rfl, srv⟩, .inr ⟨_, rfl, srv⟩, .inr ⟨_, rfl, srv⟩, .inr ⟨_, rfl, srv⟩, .inr ⟨_, rfl, srv⟩, .inr ⟨_, rfl, srv⟩, trivial⟩ rfl rfl rfl rfl rfl ?_)
  refine rw_t 24 rfl rfl rfl (do_move rfl ?_)
  refine rw_t 28 rfl rfl rfl (do_extract rfl rfl ?_)
  refine rw_t 29 rfl rfl rfl (do_extract rfl rfl ?_)
  refine rw_t 9 rfl rfl rfl (do_assign rfl ?_)
  refine rw_t 8 rfl rfl rfl (do_assign rfl ?_)
  refine rw_nil ?_
  refine w_seq ?_
  refine w_region ?_
  refine rw_t 30 rfl rfl rfl (n_load_boxagg [_, _, _, _, _, _, _, _, _] rfl rfl (Nat.le_of_ble_eq_true rfl) rfl ?_)
  refine rw_t 31 rfl rfl rfl (do_move rfl ?_)
  refine rw_t 32 rfl rfl rfl (do_move rfl ?_)
  refine rw_u rfl rfl (n_store_whole rfl rfl rfl rfl rfl rfl ?_)
  refine rw_t 5 rfl rfl rfl (do_assign rfl ?_)
  refine rw_t 6 rfl rfl rfl (do_assign rfl ?_)
  refine rw_nil ?_
  refine w_ret ?_
  exact ret_eq (.inl rfl) (.cons (res_agg rfl rfl (Nat.le_of_ble_eq_true rfl)) (.cons (res_tmp rfl) (.cons (res_tmp rfl) .nil))) [0, 1, 4, 5, 6, 7, 8, 9, 11] (rfl) ⟨shR rfl, shR rfl, shR rfl, shR rfl, shR rfl, shR rfl, shR rfl, shR rfl, shR rfl, trivial⟩ rfl (pre_ok rfl)
end Go.Proofs

set_option linter.unusedVariables false
set_option linter.unusedSimpArgs false
namespace Go.Proofs
open Go Go.Sx Go.RowKit
theorem meet_y {o : List Bool} {wl : List Int} {v : Int} (h : o.getD v.toNat false = false) : meetS (o, wl) v = (o.set v.toNat true, wl ++ [v]) := by unfold meetS; rw [if_neg (by dsimp only; rw [h]; decide)]
theorem meet_n {o : List Bool} {wl : List Int} {v : Int} (h : o.getD v.toNat false = true) : meetS (o, wl) v = (o, wl) := by unfold meetS; rw [if_pos h]
theorem arc_row {c : Csr} (h : CsrG c) (res : List Int) {u : Int} (hu : 0 ≤ u ∧ u < c.N) {s : List Bool × List Int} (hs : BfsOK c s) {j i : Nat} (hj : j ≤ manyOf c u) (hi : i < s.2.length) : (arcS c res u s j).2.getD i 0 = s.2.getD i 0 ∧ i < (arcS c res u s j).2.length := by
  obtain ⟨-, r, hr⟩ := arc_ok h res hu hs j hj
  rw [hr]
  refine ⟨?_, by rw [List.length_append]; omega⟩
  simp only [List.getD]; rw [List.getElem?_append_left hi]
theorem arc_meet {c : Csr} {res : List Int} {u : Int} {s : List Bool × List Int} {j : Nat} (h : res.getD (c.Rev.getD (c.First.getD u.toNat 0 + j).toNat 0).toNat 0 > 0) : arcS c res u s (j + 1) = meetS (arcS c res u s j) (c.Head.getD (c.First.getD u.toNat 0 + j).toNat 0) := by
  simp only [arcS]; rw [if_pos h]
theorem arc_skip {c : Csr} {res : List Int} {u : Int} {s : List Bool × List Int} {j : Nat} (h : ¬ res.getD (c.Rev.getD (c.First.getD u.toNat 0 + j).toNat 0).toNat 0 > 0) : arcS c res u s (j + 1) = arcS c res u s j := by
  simp only [arcS]; rw [if_neg h]
theorem bfs_next {c : Csr} {res : List Int} {t : Int} {i : Nat} (hi : i < (bfsS c res t i).2.length) : bfsS c res t (i + 1) = arcS c res ((bfsS c res t i).2.getD i 0) (bfsS c res t i) (manyOf c ((bfsS c res t i).2.getD i 0)) := by
  simp only [bfsS]; rw [if_pos hi]
set_option maxHeartbeats 8000000 in
set_option synthInstance.maxHeartbeats 400000 in
set_option synthInstance.maxSize 2000 in
theorem t_tomay (c : Csr) (h : CsrG c) (r : List Int) (hr : r.length = c.Head.length) (lr : Nat) (hlr : lr = r.length) (a : Int) (ha : 0 ≤ a ∧ a < c.Head.length) : Tri Try.prog 69 [.val (.int .i64 a), .ptr 8 0 0, .ptr 6 0 0] [SO.ints false .i64 c.First, SO.ints false .i64 c.Head, SO.ints false .i64 c.Rev, SO.ints false .i64 c.Cap, SO.ints false .i64 c.Arc, SO.bools false c.Back, .box [.val (.int .i64 c.N), .val (.int .i64 c.S), .val (.int .i64 c.T), .slc 0 0 c.First.length none, .slc 1 0 c.Head.length none, .slc 2 0 c.Rev.length none, .slc 3 0 c.Cap.length none, .slc 4 0 c.Arc.length none, .slc 5 0 c.Back.length none], SO.ints false .i64 r, .box [.slc 7 0 lr none]] (fun s H => s = .val (.bool (decide (r.getD (c.Rev.getD a.toNat 0).toNat 0 > 0))) ∧ H = [SO.ints false .i64 c.First, SO.ints false .i64 c.Head, SO.ints false .i64 c.Rev, SO.ints false .i64 c.Cap, SO.ints false .i64 c.Arc, SO.bools false c.Back, .box [.val (.int .i64 c.N), .val (.int .i64 c.S), .val (.int .i64 c.T), .slc 0 0 c.First.length none, .slc 1 0 c.Head.length none, .slc 2 0 c.Rev.length none, .slc 3 0 c.Cap.length none, .slc 4 0 c.Arc.length none, .slc 5 0 c.Back.length none], SO.ints false .i64 r, .box [.slc 7 0 lr none]]) := by
  refine tri_of_w (fn := Try.f69) Try.func69 rfl (by simp [Try.f69]) ?_
  intro ρ w hρ
  refine w_seq ?_
  have hrl := h.rev
  have hhd := h.head
  have hfl := h.first
  have hhl := h.small
  have hN := h.n
  have hrv := h.rv a.toNat (by omega)
  refine w_region ?_
  refine rw_t 4 rfl rfl rfl (do_assign rfl ?_)
  refine rw_nil ?_
  refine w_seq ?_
  refine w_env [(0, .val (.int .i64 a)), (1, .ptr 8 0 0), (2, .ptr 6 0 0)] ⟨⟨_, rfl, rfl⟩, ⟨_, rfl, rfl⟩, ⟨_, rfl, rfl⟩, trivial⟩ ?_
  refine w_draw mixed [0, 0, 2, 0, 14, 30] [63, 127, 255, 511] (by kernel_rfl) (by kernel_rfl) rfl rfl rfl (hle hρ rfl) ?_
  refine ra_q (j := 0) rfl rfl rfl rfl (do_load_box rfl rfl rfl ⟨rfl, rfl⟩) (by rfl) ?_
  refine ra_q (j := 1) rfl rfl rfl rfl (do_fieldaddr rfl ⟨rfl, rfl⟩) (by rfl) ?_
  refine ra_q (j := 2) rfl rfl rfl rfl (do_load_box rfl rfl rfl ⟨rfl, rfl⟩) (by rfl) ?_
  refine ra_q (j := 3) rfl rfl rfl rfl (do_move rfl ⟨rfl, rfl⟩) (by rfl) ?_
  refine ra_q (j := 4) rfl rfl rfl rfl (do_ix0 rfl rfl rfl (by first | omega | (simp only [ls] <;> omega)) ⟨rfl, rfl⟩) (by rfl) ?_
  refine ra_q (j := 5) rfl rfl rfl rfl (do_load_arr rfl rfl (by first | omega | (simp only [ls] <;> omega)) rfl ⟨rfl, rfl⟩) (by rfl) ?_
  refine n_done ?_
  refine rw_t 11 rfl rfl rfl (do_ix0 rfl rfl rfl (by first | omega | (simp only [ls] <;> omega)) ?_)
  refine rw_t 12 rfl rfl rfl (do_load_arr rfl rfl (by first | omega | (simp only [ls] <;> omega)) rfl ?_)
  refine rw_t 13 rfl rfl rfl (do_bin rfl rfl rfl ?_)
  refine rw_t 4 rfl rfl rfl (do_assign rfl ?_)
  refine rw_nil ?_
  refine w_ret ?_
  exact ret_eq (.inl rfl) (.cons (res_tmp rfl) .nil) [0, 1, 2, 3, 4, 5, 6, 7, 8] (rfl) ⟨shR rfl, shR rfl, shR rfl, shR rfl, shR rfl, shR rfl, shR rfl, shR rfl, shR rfl, trivial⟩ rfl (pre_ok rfl)
set_option maxHeartbeats 8000000 in
set_option synthInstance.maxHeartbeats 400000 in
set_option synthInstance.maxSize 2000 in
theorem t_meet (o : List Bool) (wl : List Int) (v : Int) (lo lw : Nat) (hlo : lo = o.length) (hlw : lw = wl.length) (hv : 0 ≤ v ∧ v < o.length) (hw : wl.length ≤ 1000000) : Tri Try.prog 86 [.val (.int .i64 v), .ptr 1 0 0, .ptr 3 0 0] [SO.bools true o, .box [.slc 0 0 lo none], SO.ints true .i64 wl, .box [.slc 2 0 lw none]] (fun s H => s = .tup [] ∧ H = [SO.bools true ((meetS (o, wl) v).1), .box [.slc 0 0 lo none], .dead, .box [.slc 4 0 ((meetS (o, wl) v).2.length) none], SO.ints true .i64 ((meetS (o, wl) v).2)]) := by
  refine tri_of_w (fn := Try.f86) Try.func86 rfl (by simp [Try.f86]) ?_
  intro ρ w hρ
  refine w_seq ?_
  refine w_region ?_
  refine rw_t 4 rfl rfl rfl (do_load_box rfl rfl rfl ?_)
  refine rw_t 5 rfl rfl rfl (do_move rfl ?_)
  refine rw_t 6 rfl rfl rfl (do_ix0 rfl rfl rfl (by first | omega | (simp only [ls] <;> omega)) ?_)
  refine rw_t 7 rfl rfl rfl (do_load_arr rfl rfl (by first | omega | (simp only [ls] <;> omega)) rfl ?_)
  refine rw_t 8 rfl rfl rfl (do_not rfl ?_)
  refine rw_nil ?_
  refine w_cond rfl (fun hc1 => ?_) (fun hc1 => ?_)
  all_goals try simp only [bs] at hc1
  · refine w_seq ?_
    refine w_region ?_
    refine rw_t 9 rfl rfl rfl (do_load_box rfl rfl rfl ?_)
    refine rw_t 10 rfl rfl rfl (do_move rfl ?_)
    refine rw_t 11 rfl rfl rfl (do_ix0 rfl rfl rfl (by first | omega | (simp only [ls] <;> omega)) ?_)
    refine rw_u rfl rfl (n_store_arr (z := true) rfl rfl rfl (by first | omega | (simp only [ls] <;> omega)) rfl (by decide) rfl ?_)
    refine rw_nil ?_
    refine w_region ?_
    refine rw_t 12 rfl rfl rfl (do_load_box rfl rfl rfl ?_)
    refine rw_t 13 rfl rfl rfl (do_move rfl ?_)
    refine rw_t 14 rfl rfl rfl (n_bs (nm := 4) Int (encI .i64) 0 [v] rfl rfl rfl rfl rfl (fun _ => rfl) (fun _ _ h => by simp [encI] at h; subst h; rfl) rfl ?_)
    refine rw_t 15 rfl rfl rfl (n_app_own (nm := 5) rfl rfl rfl rfl rfl (by first | omega | (simp only [ls] <;> omega)) (by first | omega | (simp only [ls] <;> omega)) (by omega) (by omega) rfl ?_)
    refine rw_u rfl rfl (n_store_box (f := 0) rfl rfl rfl (Nat.le_of_ble_eq_true rfl) rfl ?_)
    refine rw_nil ?_
    exact ret_eq (.inr rfl) (.nil) [0, 1, 2, 3, 5] (rfl) ⟨.inr ⟨_, rfl, .inl (congrArg (SO.bools true) (congrArg Prod.fst (meet_y hc1)))⟩, shR rfl, .inl rfl, .inr ⟨_, rfl, .inl (box_congr (cons_congr (congrArg (fun k => SV.slc 5 0 k Option.none) (show (meetS (o, wl) v).2.length = lw + 1 by rw [meet_y hc1]; simp; omega)) ((rfl : ([] : List SV) = []))))⟩, .inr ⟨_, rfl, .inl (congrArg (SO.ints true .i64) (congrArg Prod.snd (meet_y hc1)))⟩, trivial⟩ rfl (pre_ok rfl)
  · refine w_skip ?_
    exact ret_eq (.inr rfl) (.nil) [0, 1, 2, 3, 2] (rfl) ⟨.inr ⟨_, rfl, .inl (congrArg (SO.bools true) (congrArg Prod.fst (meet_n hc1)))⟩, shR rfl, .inl rfl, .inr ⟨_, rfl, .inl (box_congr (cons_congr (congrArg (fun k => SV.slc 2 0 k Option.none) (show (meetS (o, wl) v).2.length = lw by rw [meet_n hc1]; exact hlw.symm)) ((rfl : ([] : List SV) = []))))⟩, .inr ⟨_, rfl, .inl (congrArg (SO.ints true .i64) (congrArg Prod.snd (meet_n hc1)))⟩, trivial⟩ rfl (pre_ok rfl)
set_option maxHeartbeats 8000000 in
set_option synthInstance.maxHeartbeats 400000 in
set_option synthInstance.maxSize 2000 in
theorem t_met (c : Csr) (h : CsrG c) (r : List Int) (hr : r.length = c.Head.length) (lr : Nat) (hlr : lr = r.length) (t : Int) (ht : 0 ≤ t ∧ t < c.N) : Tri Try.prog 68 [.agg [.val (.int .i64 c.N), .val (.int .i64 c.S), .val (.int .i64 c.T), .slc 0 0 c.First.length none, .slc 1 0 c.Head.length none, .slc 2 0 c.Rev.length none, .slc 3 0 c.Cap.length none, .slc 4 0 c.Arc.length none, .slc 5 0 c.Back.length none], .val (.int .i64 t), .func 69 [] [.ptr 8 0 0, .ptr 6 0 0]] [SO.ints false .i64 c.First, SO.ints false .i64 c.Head, SO.ints false .i64 c.Rev, SO.ints false .i64 c.Cap, SO.ints false .i64 c.Arc, SO.bools false c.Back, .box [.val (.int .i64 c.N), .val (.int .i64 c.S), .val (.int .i64 c.T), .slc 0 0 c.First.length none, .slc 1 0 c.Head.length none, .slc 2 0 c.Rev.length none, .slc 3 0 c.Cap.length none, .slc 4 0 c.Arc.length none, .slc 5 0 c.Back.length none], SO.ints false .i64 r, .box [.slc 7 0 lr none]] (fun s H => s = .slc 9 0 c.N.toNat none ∧ H = [SO.ints false .i64 c.First, SO.ints false .i64 c.Head, SO.ints false .i64 c.Rev, SO.ints false .i64 c.Cap, SO.ints false .i64 c.Arc, SO.bools false c.Back, .box [.val (.int .i64 c.N), .val (.int .i64 c.S), .val (.int .i64 c.T), .slc 0 0 c.First.length none, .slc 1 0 c.Head.length none, .slc 2 0 c.Rev.length none, .slc 3 0 c.Cap.length none, .slc 4 0 c.Arc.length none, .slc 5 0 c.Back.length none], SO.ints false .i64 r, .box [.slc 7 0 lr none], SO.bools true (metL c r t)]) := by
  refine tri_of_w (fn := Try.f68) Try.func68 rfl (by simp [Try.f68]) ?_
  intro ρ w hρ
  refine w_seq ?_
  have hrl := h.rev
  have hhd := h.head
  have hfl := h.first
  have hhl := h.small
  have hN := h.n
  refine w_region ?_
  refine rw_t 3 rfl rfl rfl (n_box_agg (n := 9) rfl rfl ?_)
  refine rw_t 6 rfl rfl rfl (do_assign rfl ?_)
  refine rw_nil ?_
  refine w_seq ?_
  refine w_region ?_
  refine rw_t 12 rfl rfl rfl (do_fieldaddr rfl ?_)
  refine rw_t 13 rfl rfl rfl (do_load_box rfl rfl rfl ?_)
  refine rw_t 14 rfl rfl rfl (n_make (nm := 10) Bool encB false rfl rfl rfl (fun _ => rfl) (fun _ _ h => by simp [encB] at h; subst h; rfl) (by omega) (by omega) (by omega) rfl ?_)
  refine rw_cap 14 rfl ?_
  refine rw_t 7 rfl rfl rfl (n_alloc (n := 11) rfl ?_)
  refine rw_u rfl rfl (n_store_box (f := 0) rfl rfl rfl (Nat.le_of_ble_eq_true rfl) rfl ?_)
  refine rw_nil ?_
  refine w_seq ?_
  refine w_region ?_
  refine rw_t 15 rfl rfl rfl (do_load_box rfl rfl rfl ?_)
  refine rw_t 16 rfl rfl rfl (do_move rfl ?_)
  refine rw_t 17 rfl rfl rfl (do_ix0 rfl rfl rfl (by first | omega | (simp only [ls] <;> omega)) ?_)
  refine rw_u rfl rfl (n_store_arr (z := true) rfl rfl rfl (by first | omega | (simp only [ls] <;> omega)) rfl (by decide) rfl ?_)
  refine rw_nil ?_
  refine w_seq ?_
  refine w_region ?_
  refine rw_t 18 rfl rfl rfl (do_move rfl ?_)
  refine rw_t 19 rfl rfl rfl (n_bs (nm := 12) Int (encI .i64) 0 [t] rfl rfl rfl rfl rfl (fun _ => rfl) (fun _ _ h => by simp [encI] at h; subst h; rfl) rfl ?_)
  refine rw_t 8 rfl rfl rfl (n_alloc (n := 13) rfl ?_)
  refine rw_u rfl rfl (n_store_box (f := 0) rfl rfl rfl (Nat.le_of_ble_eq_true rfl) rfl ?_)
  refine rw_nil ?_
  refine w_seq ?_
  refine w_region ?_
  refine rw_t 20 rfl rfl rfl (do_makefunc rfl rfl ?_)
  refine rw_t 9 rfl rfl rfl (do_assign rfl ?_)
  refine rw_nil ?_
  refine w_seq ?_
  refine w_seq ?_
  refine w_region ?_
  refine rw_t 10 rfl rfl rfl (do_assign rfl ?_)
  refine rw_nil ?_
  refine w_block ?_
  refine n_capB 13 0 rfl rfl ?_
  refine w_loopS (ι := Nat) (fun i => [(2, .func 69 [] [.ptr 8 0 0, .ptr 6 0 0]), (3, .ptr 9 0 0), (6, .val (.slice none 0 0)), (7, .ptr 11 0 0), (8, .ptr 13 0 0), (9, .func 86 [] [.ptr 11 0 0, .ptr 13 0 0]), (10, .val (.int .i64 ((i : Nat) : Int)))]) (fun i => [SO.ints false .i64 c.First, SO.ints false .i64 c.Head, SO.ints false .i64 c.Rev, SO.ints false .i64 c.Cap, SO.ints false .i64 c.Arc, SO.bools false c.Back, .box [.val (.int .i64 c.N), .val (.int .i64 c.S), .val (.int .i64 c.T), .slc 0 0 c.First.length none, .slc 1 0 c.Head.length none, .slc 2 0 c.Rev.length none, .slc 3 0 c.Cap.length none, .slc 4 0 c.Arc.length none, .slc 5 0 c.Back.length none], SO.ints false .i64 r, .box [.slc 7 0 lr none], .box [.val (.int .i64 c.N), .val (.int .i64 c.S), .val (.int .i64 c.T), .slc 0 0 c.First.length none, .slc 1 0 c.Head.length none, .slc 2 0 c.Rev.length none, .slc 3 0 c.Cap.length none, .slc 4 0 c.Arc.length none, .slc 5 0 c.Back.length none], SO.bools true ((bfsS c r t i).1), .box [.slc 10 0 c.N.toNat none], SO.ints true .i64 ((bfsS c r t i).2), .box [.slc 12 0 ((bfsS c r t i).2.length) none]]) (fun i => c.N.toNat - i) (fun i => i ≤ c.N.toNat) (0) [0, 1, 2, 3, 4, 5, 6, 7, 8, 9, 10, 11, 12, 13] (by simp) ⟨shR rfl, shR rfl, shR rfl, shR rfl, shR rfl, shR rfl, shR rfl, shR rfl, shR rfl, shR rfl, shR rfl, shR rfl, shR rfl, shR rfl, trivial⟩ rfl (pre_ok rfl) hρ ⟨⟨_, rfl, rfl⟩, ⟨_, rfl, rfl⟩, ⟨_, rfl, rfl⟩, ⟨_, rfl, rfl⟩, ⟨_, rfl, rfl⟩, ⟨_, rfl, rfl⟩, ⟨_, rfl, rfl⟩, trivial⟩ ?_
  intro i hi
  refine w_seq ?_
  refine w_seq ?_
  have hbo := bfs_ok h r ht i
  have hsml := hbo.small (by omega)
  refine w_region ?_
  refine rw_t 21 rfl rfl rfl (do_move rfl ?_)
  refine rw_t 22 rfl rfl rfl (do_load_box rfl rfl rfl ?_)
  refine rw_t 23 rfl rfl rfl (do_len rfl ?_)
  refine rw_t 24 rfl rfl rfl (do_bin rfl rfl rfl ?_)
  refine rw_nil ?_
  refine w_cond rfl (fun hc1 => ?_) (fun hc1 => ?_)
  all_goals try simp only [bs] at hc1
  rotate_left
  · refine w_exit ?_
    refine w_seq ?_
    refine w_region ?_
    refine rw_t 58 rfl rfl rfl (do_load_box rfl rfl rfl ?_)
    refine rw_t 6 rfl rfl rfl (do_assign rfl ?_)
    refine rw_nil ?_
    refine w_ret ?_
    exact ret_eq (.inl rfl) (.cons (res_tmp rfl) .nil) [0, 1, 2, 3, 4, 5, 6, 7, 8, 10] (rfl) ⟨shR rfl, shR rfl, shR rfl, shR rfl, shR rfl, shR rfl, shR rfl, shR rfl, shR rfl, .inr ⟨_, rfl, .inl (congrArg (SO.bools true) (bfs_end (by omega) hi))⟩, trivial⟩ rfl (pre_ok rfl)
  refine w_skip ?_
  refine w_seq ?_
  refine w_block ?_
  refine w_seq ?_
  have hil : i < (bfsS c r t i).2.length := by omega
  have hui := hbo.inr _ (getD_mem 0 hil)
  have hmu := h.mono ((bfsS c r t i).2.getD i 0).toNat (by omega)
  refine w_draw mixed [0, 1, 0, 0, 12, 28] [63, 127, 255] (by kernel_rfl) (by kernel_rfl) rfl rfl rfl (hle hρ rfl) ?_
  refine ra_q (j := 0) rfl rfl rfl rfl (do_fieldaddr rfl ⟨rfl, rfl⟩) (by rfl) ?_
  refine ra_q (j := 1) rfl rfl rfl rfl (do_load_box rfl rfl rfl ⟨rfl, rfl⟩) (by rfl) ?_
  refine ra_q (j := 2) rfl rfl rfl rfl (do_load_box rfl rfl rfl ⟨rfl, rfl⟩) (by rfl) ?_
  refine ra_q (j := 3) rfl rfl rfl rfl (do_move rfl ⟨rfl, rfl⟩) (by rfl) ?_
  refine ra_q (j := 4) rfl rfl rfl rfl (do_ixn rfl rfl rfl (by first | omega | (simp only [ls] <;> omega)) ⟨rfl, rfl⟩) (by rfl) ?_
  refine ra_q (j := 5) rfl rfl rfl rfl (do_load_arr rfl rfl (by first | omega | (simp only [ls] <;> omega)) rfl ⟨rfl, rfl⟩) (by rfl) ?_
  refine n_done ?_
  refine rw_t 33 rfl rfl rfl (do_ix0 rfl rfl rfl (by first | omega | (simp only [ls] <;> omega)) ?_)
  refine rw_t 34 rfl rfl rfl (do_load_arr rfl rfl (by first | omega | (simp only [ls] <;> omega)) rfl ?_)
  refine rw_t 11 rfl rfl rfl (do_assign rfl ?_)
  refine rw_nil ?_
  refine w_block ?_
  refine w_loopS (ι := Nat) (fun j => [(2, .func 69 [] [.ptr 8 0 0, .ptr 6 0 0]), (3, .ptr 9 0 0), (6, .val (.slice none 0 0)), (7, .ptr 11 0 0), (8, .ptr 13 0 0), (9, .func 86 [] [.ptr 11 0 0, .ptr 13 0 0]), (10, .val (.int .i64 ((i : Nat) : Int))), (11, .val (.int .i64 (c.First.getD ((bfsS c r t i).2.getD i 0).toNat 0 + ((j : Nat) : Int)))), (21, .val (.int .i64 ((i : Nat) : Int))), (23, .val (.int .i64 (((bfsS c r t i).2.length : Nat) : Int))), (24, .val (.bool (decide (((i : Nat) : Int) < (((bfsS c r t i).2.length : Nat) : Int)))))]) (fun j => [SO.ints false .i64 c.First, SO.ints false .i64 c.Head, SO.ints false .i64 c.Rev, SO.ints false .i64 c.Cap, SO.ints false .i64 c.Arc, SO.bools false c.Back, .box [.val (.int .i64 c.N), .val (.int .i64 c.S), .val (.int .i64 c.T), .slc 0 0 c.First.length none, .slc 1 0 c.Head.length none, .slc 2 0 c.Rev.length none, .slc 3 0 c.Cap.length none, .slc 4 0 c.Arc.length none, .slc 5 0 c.Back.length none], SO.ints false .i64 r, .box [.slc 7 0 lr none], .box [.val (.int .i64 c.N), .val (.int .i64 c.S), .val (.int .i64 c.T), .slc 0 0 c.First.length none, .slc 1 0 c.Head.length none, .slc 2 0 c.Rev.length none, .slc 3 0 c.Cap.length none, .slc 4 0 c.Arc.length none, .slc 5 0 c.Back.length none], SO.bools true ((arcS c r ((bfsS c r t i).2.getD i 0) (bfsS c r t i) j).1), .box [.slc 10 0 c.N.toNat none], SO.ints true .i64 ((arcS c r ((bfsS c r t i).2.getD i 0) (bfsS c r t i) j).2), .box [.slc 12 0 ((arcS c r ((bfsS c r t i).2.getD i 0) (bfsS c r t i) j).2.length) none]]) (fun j => manyOf c ((bfsS c r t i).2.getD i 0) - j) (fun j => j ≤ manyOf c ((bfsS c r t i).2.getD i 0)) (0) [0, 1, 2, 3, 4, 5, 6, 7, 8, 9, 10, 11, 12, 13] (by simp) ⟨shR rfl, shR rfl, shR rfl, shR rfl, shR rfl, shR rfl, shR rfl, shR rfl, shR rfl, shR rfl, shR rfl, shR rfl, shR rfl, shR rfl, trivial⟩ rfl (pre_ok rfl) hρ ⟨⟨_, rfl, rfl⟩, ⟨_, rfl, rfl⟩, ⟨_, rfl, rfl⟩, ⟨_, rfl, rfl⟩, ⟨_, rfl, rfl⟩, ⟨_, rfl, rfl⟩, ⟨_, rfl, rfl⟩, ⟨_, rfl, Eq.symm (val_congr (by simp))⟩, ⟨_, rfl, rfl⟩, ⟨_, rfl, rfl⟩, ⟨_, rfl, rfl⟩, trivial⟩ ?_
  intro j gj
  refine w_seq ?_
  refine w_seq ?_
  have har := arc_row h r hui hbo gj hil
  have hfe : c.First.getD ((arcS c r ((bfsS c r t i).2.getD i 0) (bfsS c r t i) j).2.getD i 0 + 1).toNat 0 = c.First.getD (((bfsS c r t i).2.getD i 0) + 1).toNat 0 := by rw [har.1]
  have hmn : manyOf c ((bfsS c r t i).2.getD i 0) = (c.First.getD (((bfsS c r t i).2.getD i 0) + 1).toNat 0 - c.First.getD ((bfsS c r t i).2.getD i 0).toNat 0).toNat := rfl
  have hu1 : (((bfsS c r t i).2.getD i 0) + 1).toNat = ((bfsS c r t i).2.getD i 0).toNat + 1 := by omega
  rw [hu1] at hfe hmn
  have hao := arc_ok h r hui hbo j gj
  have hasm := hao.1.small (by omega)
  refine w_draw mixed [0, 0, 2, 0, 0, 24, 56, 120, 254, 510] [1023] (by kernel_rfl) (by kernel_rfl) rfl rfl rfl (hle hρ rfl) ?_
  refine ra_q (j := 0) rfl rfl rfl rfl (do_move rfl ⟨rfl, rfl⟩) (by rfl) ?_
  refine ra_q (j := 1) rfl rfl rfl rfl (do_fieldaddr rfl ⟨rfl, rfl⟩) (by rfl) ?_
  refine ra_q (j := 2) rfl rfl rfl rfl (do_load_box rfl rfl rfl ⟨rfl, rfl⟩) (by rfl) ?_
  refine ra_q (j := 3) rfl rfl rfl rfl (do_load_box rfl rfl rfl ⟨rfl, rfl⟩) (by rfl) ?_
  refine ra_q (j := 4) rfl rfl rfl rfl (do_move rfl ⟨rfl, rfl⟩) (by rfl) ?_
  refine ra_q (j := 5) rfl rfl rfl rfl (do_ixn rfl rfl rfl (by first | omega | (simp only [ls] <;> omega)) ⟨rfl, rfl⟩) (by rfl) ?_
  refine ra_q (j := 6) rfl rfl rfl rfl (do_load_arr rfl rfl (by first | omega | (simp only [ls] <;> omega)) rfl ⟨rfl, rfl⟩) (by rfl) ?_
  refine ra_q (j := 7) rfl rfl rfl rfl (do_add rfl rfl (by omega) ⟨rfl, rfl⟩) (by rfl) ?_
  refine ra_q (j := 8) rfl rfl rfl rfl (do_ix0 rfl rfl rfl (by first | omega | (simp only [ls] <;> omega)) ⟨rfl, rfl⟩) (by rfl) ?_
  refine ra_q (j := 9) rfl rfl rfl rfl (do_load_arr rfl rfl (by first | omega | (simp only [ls] <;> omega)) rfl ⟨rfl, rfl⟩) (by rfl) ?_
  refine n_done ?_
  refine rw_t 45 rfl rfl rfl (do_bin rfl rfl rfl ?_)
  refine rw_nil ?_
  refine w_cond rfl (fun hc2 => ?_) (fun hc2 => ?_)
  all_goals try simp only [bs] at hc2
  rotate_left
  · refine w_exit ?_
    refine w_region ?_
    refine rw_t 25 rfl rfl rfl (do_move rfl ?_)
    refine rw_t 26 rfl rfl rfl (do_add rfl rfl (by omega) ?_)
    refine rw_t 10 rfl rfl rfl (do_assign rfl ?_)
    refine rw_nil ?_
    have hje : j = manyOf c ((bfsS c r t i).2.getD i 0) := by omega
    refine ⟨i + 1, [0, 1, 2, 3, 4, 5, 6, 7, 8, 9, 10, 11, 12, 13], by dsimp only; omega, by omega, ⟨shR rfl, shR rfl, shR rfl, shR rfl, shR rfl, shR rfl, shR rfl, shR rfl, shR rfl, shR rfl, .inr ⟨_, rfl, .inl (congrArg (SO.bools true) (congrArg Prod.fst ((bfs_next hil).trans (by rw [hje]))))⟩, shR rfl, .inr ⟨_, rfl, .inl (congrArg (SO.ints true .i64) (congrArg Prod.snd ((bfs_next hil).trans (by rw [hje]))))⟩, .inr ⟨_, rfl, .inl (box_congr (cons_congr (congrArg (fun k => SV.slc 12 0 k Option.none) (congrArg (fun s : List Bool × List Int => s.2.length) ((bfs_next hil).trans (by rw [hje])))) ((rfl : ([] : List SV) = []))))⟩, trivial⟩, rfl, pre_ok rfl, ⟨⟨_, rfl, rfl⟩, ⟨_, rfl, rfl⟩, ⟨_, rfl, rfl⟩, ⟨_, rfl, rfl⟩, ⟨_, rfl, rfl⟩, ⟨_, rfl, rfl⟩, ⟨_, rfl, rfl⟩, trivial⟩⟩
  refine w_skip ?_
  refine w_seq ?_
  refine w_block ?_
  refine w_seq ?_
  have hjm : j < manyOf c ((bfsS c r t i).2.getD i 0) := by omega
  have hma := many_arc h.toCsrT hui hjm
  have hhv := h.hd (c.First.getD ((bfsS c r t i).2.getD i 0).toNat 0 + ((j : Nat) : Int)).toNat (by omega)
  have hol := hao.1.len
  refine w_region ?_
  refine rw_t 48 rfl rfl rfl (do_move rfl ?_)
  refine rw_t 49 rfl rfl rfl (do_move rfl ?_)
  refine rw_t 50 rfl rfl rfl (n_callW (X' := .val (.bool (decide (r.getD (c.Rev.getD (c.First.getD ((bfsS c r t i).2.getD i 0).toNat 0 + ((j : Nat) : Int)).toNat 0).toNat 0 > 0)))) (H' := [SO.ints false .i64 c.First, SO.ints false .i64 c.Head, SO.ints false .i64 c.Rev, SO.ints false .i64 c.Cap, SO.ints false .i64 c.Arc, SO.bools false c.Back, .box [.val (.int .i64 c.N), .val (.int .i64 c.S), .val (.int .i64 c.T), .slc 0 0 c.First.length none, .slc 1 0 c.Head.length none, .slc 2 0 c.Rev.length none, .slc 3 0 c.Cap.length none, .slc 4 0 c.Arc.length none, .slc 5 0 c.Back.length none], SO.ints false .i64 r, .box [.slc 7 0 lr none], .box [.val (.int .i64 c.N), .val (.int .i64 c.S), .val (.int .i64 c.T), .slc 0 0 c.First.length none, .slc 1 0 c.Head.length none, .slc 2 0 c.Rev.length none, .slc 3 0 c.Cap.length none, .slc 4 0 c.Arc.length none, .slc 5 0 c.Back.length none], SO.bools true ((arcS c r ((bfsS c r t i).2.getD i 0) (bfsS c r t i) j).1), .box [.slc 10 0 c.N.toNat none], SO.ints true .i64 ((arcS c r ((bfsS c r t i).2.getD i 0) (bfsS c r t i) j).2), .box [.slc 12 0 ((arcS c r ((bfsS c r t i).2.getD i 0) (bfsS c r t i) j).2.length) none]]) rfl rfl (t_tomay (c := c) (r := r) (lr := lr) (a := (c.First.getD ((bfsS c r t i).2.getD i 0).toNat 0 + ((j : Nat) : Int))) (h) (hr) (hlr) (⟨hma.1, hma.2.1⟩)) [0, 1, 2, 3, 4, 5, 6, 7, 8] ⟨.inr ⟨_, rfl, srv⟩, .inr ⟨_, rfl, srv⟩, .inr ⟨_, rfl, srv⟩, .inr ⟨_, rfl, srv⟩, .inr ⟨_, rfl, srv⟩, .inr ⟨_, rfl, srv⟩, shR rfl, .inr ⟨_, rfl, srv⟩, shR rfl, trivial⟩ rfl rfl ⟨fun h => (by cases h), ⟨fun h => (by cases h), ⟨fun h => (by cases h), ⟨fun h => (by cases h), ⟨fun h => (by cases h), ⟨fun h => (by cases h), ⟨fun h => .inl rfl, ⟨fun h => (by cases h), ⟨fun h => .inl rfl, (fun y hy => by simp at hy)⟩⟩⟩⟩⟩⟩⟩⟩⟩ rfl rfl ?_)
  refine rw_nil ?_
  refine w_cond rfl (fun hc3 => ?_) (fun hc3 => ?_)
  all_goals try simp only [bs] at hc3
  · -- region 12
    refine w_region ?_
    refine rw_t 51 rfl rfl rfl (do_move rfl ?_)
    refine rw_t 52 rfl rfl rfl (do_fieldaddr rfl ?_)
    refine rw_t 53 rfl rfl rfl (do_load_box rfl rfl rfl ?_)
    refine rw_t 54 rfl rfl rfl (do_move rfl ?_)
    refine rw_t 55 rfl rfl rfl (do_ix0 rfl rfl rfl (by first | omega | (simp only [ls] <;> omega)) ?_)
    refine rw_t 56 rfl rfl rfl (do_load_arr rfl rfl (by first | omega | (simp only [ls] <;> omega)) rfl ?_)
    refine rw_t 57 rfl rfl rfl (n_callW (X' := .tup []) (H' := [SO.ints false .i64 c.First, SO.ints false .i64 c.Head, SO.ints false .i64 c.Rev, SO.ints false .i64 c.Cap, SO.ints false .i64 c.Arc, SO.bools false c.Back, .box [.val (.int .i64 c.N), .val (.int .i64 c.S), .val (.int .i64 c.T), .slc 0 0 c.First.length none, .slc 1 0 c.Head.length none, .slc 2 0 c.Rev.length none, .slc 3 0 c.Cap.length none, .slc 4 0 c.Arc.length none, .slc 5 0 c.Back.length none], SO.ints false .i64 r, .box [.slc 7 0 lr none], .box [.val (.int .i64 c.N), .val (.int .i64 c.S), .val (.int .i64 c.T), .slc 0 0 c.First.length none, .slc 1 0 c.Head.length none, .slc 2 0 c.Rev.length none, .slc 3 0 c.Cap.length none, .slc 4 0 c.Arc.length none, .slc 5 0 c.Back.length none], SO.bools true ((meetS (((arcS c r ((bfsS c r t i).2.getD i 0) (bfsS c r t i) j).1), ((arcS c r ((bfsS c r t i).2.getD i 0) (bfsS c r t i) j).2)) (c.Head.getD ((c.First.getD ((bfsS c r t i).2.getD i 0).toNat 0 + ((j : Nat) : Int)).toNat) 0)).1), .box [.slc 10 0 c.N.toNat none], .dead, .box [.slc 14 0 ((meetS (((arcS c r ((bfsS c r t i).2.getD i 0) (bfsS c r t i) j).1), ((arcS c r ((bfsS c r t i).2.getD i 0) (bfsS c r t i) j).2)) (c.Head.getD ((c.First.getD ((bfsS c r t i).2.getD i 0).toNat 0 + ((j : Nat) : Int)).toNat) 0)).2.length) none], SO.ints true .i64 ((meetS (((arcS c r ((bfsS c r t i).2.getD i 0) (bfsS c r t i) j).1), ((arcS c r ((bfsS c r t i).2.getD i 0) (bfsS c r t i) j).2)) (c.Head.getD ((c.First.getD ((bfsS c r t i).2.getD i 0).toNat 0 + ((j : Nat) : Int)).toNat) 0)).2)]) rfl rfl (t_meet (o := (arcS c r ((bfsS c r t i).2.getD i 0) (bfsS c r t i) j).1) (wl := (arcS c r ((bfsS c r t i).2.getD i 0) (bfsS c r t i) j).2) (v := (c.Head.getD ((c.First.getD ((bfsS c r t i).2.getD i 0).toNat 0 + ((j : Nat) : Int)).toNat) 0)) (lo := c.N.toNat) (lw := (arcS c r ((bfsS c r t i).2.getD i 0) (bfsS c r t i) j).2.length) (hol.symm) (rfl) (by omega) (by omega)) [10, 11, 12, 13] ⟨shR rfl, shR rfl, shR rfl, shR rfl, trivial⟩ rfl rfl ⟨fun h => .inl rfl, ⟨fun h => .inl rfl, ⟨fun h => .inr rfl, ⟨fun h => .inl rfl, (okNew_tail rfl)⟩⟩⟩⟩ rfl rfl ?_)
    refine rw_nil ?_
    refine w_region ?_
    refine rw_t 46 rfl rfl rfl (do_move rfl ?_)
    refine rw_t 47 rfl rfl rfl (do_add rfl rfl (by omega) ?_)
    refine rw_t 11 rfl rfl rfl (do_assign rfl ?_)
    refine rw_nil ?_
    refine ⟨j + 1, [0, 1, 2, 3, 4, 5, 6, 7, 8, 9, 10, 11, 14, 13], by dsimp only; omega, by omega, ⟨shR rfl, shR rfl, shR rfl, shR rfl, shR rfl, shR rfl, shR rfl, shR rfl, shR rfl, shR rfl, .inr ⟨_, rfl, .inl (congrArg (SO.bools true) (congrArg Prod.fst (arc_meet hc3)))⟩, shR rfl, .inr ⟨_, rfl, .inl (congrArg (SO.ints true .i64) (congrArg Prod.snd (arc_meet hc3)))⟩, .inr ⟨_, rfl, .inl (box_congr (cons_congr (congrArg (fun k => SV.slc 14 0 k Option.none) (congrArg (fun s : List Bool × List Int => s.2.length) (arc_meet hc3))) ((rfl : ([] : List SV) = []))))⟩, trivial⟩, rfl, pre_ok rfl, ⟨⟨_, rfl, rfl⟩, ⟨_, rfl, rfl⟩, ⟨_, rfl, rfl⟩, ⟨_, rfl, rfl⟩, ⟨_, rfl, rfl⟩, ⟨_, rfl, rfl⟩, ⟨_, rfl, rfl⟩, ⟨_, rfl, Eq.symm (val_congr (by omega))⟩, ⟨_, rfl, rfl⟩, ⟨_, rfl, rfl⟩, ⟨_, rfl, rfl⟩, trivial⟩⟩
  · refine w_skip ?_
    refine w_region ?_
    refine rw_t 46 rfl rfl rfl (do_move rfl ?_)
    refine rw_t 47 rfl rfl rfl (do_add rfl rfl (by omega) ?_)
    refine rw_t 11 rfl rfl rfl (do_assign rfl ?_)
    refine rw_nil ?_
    refine ⟨j + 1, [0, 1, 2, 3, 4, 5, 6, 7, 8, 9, 10, 11, 12, 13], by dsimp only; omega, by omega, ⟨shR rfl, shR rfl, shR rfl, shR rfl, shR rfl, shR rfl, shR rfl, shR rfl, shR rfl, shR rfl, .inr ⟨_, rfl, .inl (congrArg (SO.bools true) (congrArg Prod.fst (arc_skip hc3)))⟩, shR rfl, .inr ⟨_, rfl, .inl (congrArg (SO.ints true .i64) (congrArg Prod.snd (arc_skip hc3)))⟩, .inr ⟨_, rfl, .inl (box_congr (cons_congr (congrArg (fun k => SV.slc 12 0 k Option.none) (congrArg (fun s : List Bool × List Int => s.2.length) (arc_skip hc3))) ((rfl : ([] : List SV) = []))))⟩, trivial⟩, rfl, pre_ok rfl, ⟨⟨_, rfl, rfl⟩, ⟨_, rfl, rfl⟩, ⟨_, rfl, rfl⟩, ⟨_, rfl, rfl⟩, ⟨_, rfl, rfl⟩, ⟨_, rfl, rfl⟩, ⟨_, rfl, rfl⟩, ⟨_, rfl, Eq.symm (val_congr (by omega))⟩, ⟨_, rfl, rfl⟩, ⟨_, rfl, rfl⟩, ⟨_, rfl, rfl⟩, trivial⟩⟩
end Go.Proofs

set_option linter.unusedVariables false
set_option linter.unusedSimpArgs false
namespace Go.Proofs
open Go Go.Sx Go.RowKit
def negT (c : Csr) (res : List Int) (t : Int) (i : Nat) : List Bool := tab c.N.toNat (fun v => if v < i then !(metL c res t).getD v false else (metL c res t).getD v false)
theorem met_len {c : Csr} (h : CsrG c) (res : List Int) {t : Int} (ht : 0 ≤ t ∧ t < c.N) : (metL c res t).length = c.N.toNat := (bfs_ok h res ht _).len
theorem negT_zero {c : Csr} (h : CsrG c) (res : List Int) {t : Int} (ht : 0 ≤ t ∧ t < c.N) : negT c res t 0 = metL c res t := by
  rw [tab_of (metL c res t) false, met_len h res ht]
  exact tab_congr fun v _ => by rw [if_neg (by omega)]
theorem negT_all (c : Csr) (res : List Int) (t : Int) : negT c res t c.N.toNat = sideL c res t := tab_congr fun v hv => if_pos hv
theorem negT_len (c : Csr) (res : List Int) (t : Int) (i : Nat) : (negT c res t i).length = c.N.toNat := tab_len _ _
theorem negT_next {c : Csr} {res : List Int} {t : Int} {i : Nat} (hi : i < c.N.toNat) : negT c res t (i + 1) = (negT c res t i).set i (!(negT c res t i).getD i false) := by
  unfold negT
  rw [tab_get _ _ hi, if_neg (Nat.lt_irrefl i), tab_set]
  refine tab_congr fun v hv => ?_
  by_cases h : v = i
  · subst h; rw [if_pos (by omega), if_pos rfl]
  · rw [if_neg h]
    by_cases h2 : v < i
    · rw [if_pos h2, if_pos (by omega)]
    · rw [if_neg h2, if_neg (by omega)]
set_option maxHeartbeats 8000000 in
set_option synthInstance.maxHeartbeats 400000 in
set_option synthInstance.maxSize 2000 in
theorem t_To (n : Net) (hsm : Small n) (f : List Int) (hf : withinP n f) (hl : f.length ≤ 9223372036854775807) : Tri Try.prog 38 [.agg [.val (.int .i64 n.N), .val (.int .i64 n.S), .val (.int .i64 n.T), .slc 0 0 n.arcs.length none], .slc 1 0 f.length none] [SO.arcs false n.arcs, SO.ints false .i64 f] (fun s H => s = .tup [.slc 2 0 n.N.toNat none, .val (.int .i64 0)] ∧ H = [SO.arcs false n.arcs, SO.ints false .i64 f, SO.bools true (sideL (makeC n) (resOf (makeC n) f (makeC n).Head.length) n.T)]) := by
  refine tri_of_w (fn := Try.f38) Try.func38 rfl (by simp [Try.f38]) ?_
  intro ρ w hρ
  refine w_seq ?_
  have hcq := make_q hsm
  have hg := hcq.toCsrG
  have hN := hg.n
  have hT := hg.t
  have hnn : (makeC n).N = n.N := rfl
  have htt : (makeC n).T = n.T := rfl
  refine w_region ?_
  refine rw_t 2 rfl rfl rfl (n_box_agg (n := 2) rfl rfl ?_)
  refine rw_t 4 rfl rfl rfl (do_assign rfl ?_)
  refine rw_t 5 rfl rfl rfl (do_assign rfl ?_)
  refine rw_nil ?_
  refine w_seq ?_
  refine w_region ?_
  refine rw_t 12 rfl rfl rfl (n_load_boxagg [_, _, _, _] rfl rfl (Nat.le_of_ble_eq_true rfl) rfl ?_)
  refine rw_t 13 rfl rfl rfl (do_move rfl ?_)
  refine rw_t 14 rfl rfl rfl (n_callN (X' := .tup [.agg [.val (.int .i64 ((makeC n).N)), .val (.int .i64 ((makeC n).S)), .val (.int .i64 ((makeC n).T)), .slc 3 0 ((makeC n).First.length) none, .slc 4 0 ((makeC n).Head.length) none, .slc 5 0 ((makeC n).Rev.length) none, .slc 6 0 ((makeC n).Cap.length) none, .slc 7 0 ((makeC n).Arc.length) none, .slc 8 0 ((makeC n).Back.length) none], .slc 9 0 ((resOf (makeC n) f (makeC n).Head.length).length) none, .val (.int .i64 0)]) (N' := [SO.ints true .i64 ((makeC n).First), SO.ints true .i64 ((makeC n).Head), SO.ints true .i64 ((makeC n).Rev), SO.ints true .i64 ((makeC n).Cap), SO.ints true .i64 ((makeC n).Arc), SO.bools true ((makeC n).Back), SO.ints true .i64 (resOf (makeC n) f (makeC n).Head.length)]) rfl rfl (t_left (n := n) (f := f) (hsm) (hf) (hl)) [0, 1] ⟨.inr ⟨_, rfl, srv⟩, .inr ⟨_, rfl, srv⟩, trivial⟩ rfl rfl rfl rfl rfl ?_)
  refine rw_t 11 rfl rfl rfl (do_move rfl ?_)
  refine rw_t 15 rfl rfl rfl (do_extract rfl rfl ?_)
  refine rw_t 16 rfl rfl rfl (do_extract rfl rfl ?_)
  refine rw_t 17 rfl rfl rfl (do_extract rfl rfl ?_)
  refine rw_t 6 rfl rfl rfl (n_alloc (n := 10) rfl ?_)
  refine rw_t 7 rfl rfl rfl (n_alloc (n := 11) rfl ?_)
  refine rw_u rfl rfl (n_store_whole rfl rfl rfl rfl rfl rfl ?_)
  refine rw_u rfl rfl (n_store_box (f := 0) rfl rfl rfl (Nat.le_of_ble_eq_true rfl) rfl ?_)
  refine rw_t 8 rfl rfl rfl (do_assign rfl ?_)
  refine rw_nil ?_
  refine w_seq ?_
  refine w_seq ?_
  refine w_region ?_
  refine rw_t 18 rfl rfl rfl (do_move rfl ?_)
  refine rw_t 19 rfl rfl rfl (do_bin rfl rfl rfl ?_)
  refine rw_nil ?_
  refine w_cond rfl (fun hc1 => ?_) (fun hc1 => ?_)
  · exfalso; simp at hc1
  refine w_skip ?_
  refine w_seq ?_
  refine w_region ?_
  refine rw_t 21 rfl rfl rfl (n_load_boxagg [_, _, _, _, _, _, _, _, _] rfl rfl (Nat.le_of_ble_eq_true rfl) rfl ?_)
  refine rw_t 22 rfl rfl rfl (do_fieldaddr rfl ?_)
  refine rw_t 23 rfl rfl rfl (do_load_box rfl rfl rfl ?_)
  refine rw_t 24 rfl rfl rfl (do_makefunc rfl rfl ?_)
  refine rw_t 25 rfl rfl rfl (n_callW (X' := .slc 12 0 ((makeC n).N.toNat) none) (H' := [SO.arcs false n.arcs, SO.ints false .i64 f, .box [.val (.int .i64 n.N), .val (.int .i64 n.S), .val (.int .i64 n.T), .slc 0 0 n.arcs.length none], SO.ints true .i64 ((makeC n).First), SO.ints true .i64 ((makeC n).Head), SO.ints true .i64 ((makeC n).Rev), SO.ints true .i64 ((makeC n).Cap), SO.ints true .i64 ((makeC n).Arc), SO.bools true ((makeC n).Back), SO.ints true .i64 (resOf (makeC n) f (makeC n).Head.length), .box [.val (.int .i64 ((makeC n).N)), .val (.int .i64 ((makeC n).S)), .val (.int .i64 ((makeC n).T)), .slc 3 0 ((makeC n).First.length) none, .slc 4 0 ((makeC n).Head.length) none, .slc 5 0 ((makeC n).Rev.length) none, .slc 6 0 ((makeC n).Cap.length) none, .slc 7 0 ((makeC n).Arc.length) none, .slc 8 0 ((makeC n).Back.length) none], .box [.slc 9 0 ((resOf (makeC n) f (makeC n).Head.length).length) none], SO.bools true (metL (makeC n) (resOf (makeC n) f (makeC n).Head.length) n.T)]) rfl rfl (t_met (c := (makeC n)) (r := (resOf (makeC n) f (makeC n).Head.length)) (lr := (resOf (makeC n) f (makeC n).Head.length).length) (t := n.T) (hg) ((by simp [resOf])) (rfl) (hT)) [3, 4, 5, 6, 7, 8, 10, 9, 11] ⟨.inr ⟨_, rfl, srv⟩, .inr ⟨_, rfl, srv⟩, .inr ⟨_, rfl, srv⟩, .inr ⟨_, rfl, srv⟩, .inr ⟨_, rfl, srv⟩, .inr ⟨_, rfl, srv⟩, shR rfl, .inr ⟨_, rfl, srv⟩, shR rfl, trivial⟩ rfl rfl ⟨fun h => (by cases h), ⟨fun h => (by cases h), ⟨fun h => (by cases h), ⟨fun h => (by cases h), ⟨fun h => (by cases h), ⟨fun h => (by cases h), ⟨fun h => .inl rfl, ⟨fun h => (by cases h), ⟨fun h => .inl rfl, (okNew_tail rfl)⟩⟩⟩⟩⟩⟩⟩⟩⟩ rfl rfl ?_)
  refine rw_t 9 rfl rfl rfl (do_assign rfl ?_)
  refine rw_nil ?_
  refine w_seq ?_
  refine w_seq ?_
  refine w_region ?_
  refine rw_t 26 rfl rfl rfl (do_move rfl ?_)
  refine rw_t 27 rfl rfl rfl (do_len rfl ?_)
  refine rw_t 28 rfl rfl rfl (do_move rfl ?_)
  refine rw_nil ?_
  refine w_block ?_
  refine w_loopS (ι := Nat) (fun i => [(4, .val (.slice none 0 0)), (5, .val (.int .i64 0)), (9, .slc 12 0 ((makeC n).N.toNat) none), (27, .val (.int .i64 (((makeC n).N.toNat : Nat) : Int))), (28, .val (.int .i64 ((i : Nat) : Int)))]) (fun i => [SO.arcs false n.arcs, SO.ints false .i64 f, .box [.val (.int .i64 n.N), .val (.int .i64 n.S), .val (.int .i64 n.T), .slc 0 0 n.arcs.length none], SO.ints true .i64 ((makeC n).First), SO.ints true .i64 ((makeC n).Head), SO.ints true .i64 ((makeC n).Rev), SO.ints true .i64 ((makeC n).Cap), SO.ints true .i64 ((makeC n).Arc), SO.bools true ((makeC n).Back), SO.ints true .i64 (resOf (makeC n) f (makeC n).Head.length), .box [.val (.int .i64 ((makeC n).N)), .val (.int .i64 ((makeC n).S)), .val (.int .i64 ((makeC n).T)), .slc 3 0 ((makeC n).First.length) none, .slc 4 0 ((makeC n).Head.length) none, .slc 5 0 ((makeC n).Rev.length) none, .slc 6 0 ((makeC n).Cap.length) none, .slc 7 0 ((makeC n).Arc.length) none, .slc 8 0 ((makeC n).Back.length) none], .box [.slc 9 0 ((resOf (makeC n) f (makeC n).Head.length).length) none], SO.bools true (negT (makeC n) (resOf (makeC n) f (makeC n).Head.length) n.T i)]) (fun i => n.N.toNat - i) (fun i => i ≤ n.N.toNat) (0) [0, 1, 2, 3, 4, 5, 6, 7, 8, 9, 10, 11, 12] (by simp) ⟨shR rfl, shR rfl, shR rfl, shR rfl, shR rfl, shR rfl, shR rfl, shR rfl, shR rfl, shR rfl, shR rfl, shR rfl, .inr ⟨_, rfl, .inl (congrArg (SO.bools true) (negT_zero hg _ hT))⟩, trivial⟩ rfl (pre_ok rfl) hρ ⟨⟨_, rfl, rfl⟩, ⟨_, rfl, rfl⟩, ⟨_, rfl, rfl⟩, ⟨_, rfl, rfl⟩, ⟨_, rfl, rfl⟩, trivial⟩ ?_
  intro i hi
  refine w_seq ?_
  refine w_region ?_
  refine rw_t 29 rfl rfl rfl (do_bin rfl rfl rfl ?_)
  refine rw_nil ?_
  refine w_seq ?_
  refine w_cond rfl (fun hc2 => ?_) (fun hc2 => ?_)
  all_goals try simp only [bs] at hc2
  rotate_left
  · refine w_exit ?_
    refine w_seq ?_
    refine w_region ?_
    refine rw_t 40 rfl rfl rfl (do_move rfl ?_)
    refine rw_t 4 rfl rfl rfl (do_assign rfl ?_)
    refine rw_t 5 rfl rfl rfl (do_assign rfl ?_)
    refine rw_nil ?_
    have hi' : i = n.N.toNat := by omega
    subst hi'
    refine w_ret ?_
    exact ret_eq (.inl rfl) (.cons (res_tmp rfl) (.cons (res_tmp rfl) .nil)) [0, 1, 12] (rfl) ⟨shR rfl, shR rfl, .inr ⟨_, rfl, .inl (congrArg (SO.bools true) ((negT_all _ _ _).symm))⟩, trivial⟩ rfl (pre_ok rfl)
  refine w_skip ?_
  refine w_seq ?_
  refine w_block ?_
  refine w_seq ?_
  refine w_region ?_
  refine rw_t 30 rfl rfl rfl (do_move rfl ?_)
  refine rw_t 10 rfl rfl rfl (do_assign rfl ?_)
  refine rw_nil ?_
  have hgl := negT_len (makeC n) (resOf (makeC n) f (makeC n).Head.length) n.T i
  refine w_region ?_
  refine rw_t 31 rfl rfl rfl (do_move rfl ?_)
  refine rw_t 32 rfl rfl rfl (do_move rfl ?_)
  refine rw_t 33 rfl rfl rfl (do_move rfl ?_)
  refine rw_t 34 rfl rfl rfl (do_move rfl ?_)
  refine rw_t 35 rfl rfl rfl (do_ixn rfl rfl rfl (by first | omega | (simp only [ls] <;> omega)) ?_)
  refine rw_t 36 rfl rfl rfl (do_load_arr rfl rfl (by first | omega | (simp only [ls] <;> omega)) rfl ?_)
  refine rw_t 37 rfl rfl rfl (do_not rfl ?_)
  refine rw_t 38 rfl rfl rfl (do_ixn rfl rfl rfl (by first | omega | (simp only [ls] <;> omega)) ?_)
  refine rw_u rfl rfl (n_store_arr (z := !((negT (makeC n) (resOf (makeC n) f (makeC n).Head.length) n.T i).getD i false)) rfl rfl rfl (by first | omega | (simp only [ls] <;> omega)) rfl (by decide) rfl ?_)
  refine rw_nil ?_
  refine w_region ?_
  refine rw_t 39 rfl rfl rfl (do_add rfl rfl (by omega) ?_)
  refine rw_t 28 rfl rfl rfl (do_move rfl ?_)
  refine rw_nil ?_
  refine ⟨i + 1, [0, 1, 2, 3, 4, 5, 6, 7, 8, 9, 10, 11, 12], by dsimp only; omega, by omega, ⟨shR rfl, shR rfl, shR rfl, shR rfl, shR rfl, shR rfl, shR rfl, shR rfl, shR rfl, shR rfl, shR rfl, shR rfl, .inr ⟨_, rfl, .inl (congrArg (SO.bools true) (negT_next (by omega)))⟩, trivial⟩, rfl, pre_ok rfl, ⟨⟨_, rfl, rfl⟩, ⟨_, rfl, rfl⟩, ⟨_, rfl, rfl⟩, ⟨_, rfl, rfl⟩, ⟨_, rfl, rfl⟩, trivial⟩⟩
end Go.Proofs

set_option linter.unusedVariables false
set_option linter.unusedSimpArgs false
namespace Go.Proofs
open Go Go.Sx Go.RowKit
def cutP (n : Net) (sd : List Bool) : Prop := sd.length = n.N.toNat ∧ sd.getD n.S.toNat false = true ∧ sd.getD n.T.toNat false = false
instance (n : Net) (sd : List Bool) : Decidable (cutP n sd) := by unfold cutP; infer_instance
abbrev outK (n : Net) (sd : List Bool) (k : Nat) : Bool := sd.getD (n.arcs.getD k Arc.none).frm.toNat false
abbrev innK (n : Net) (sd : List Bool) (k : Nat) : Bool := sd.getD (n.arcs.getD k Arc.none).to.toNat false
/-- The capacity of a side's first arcs. -/
def capK (n : Net) (sd : List Bool) : Nat → Int
  | 0 => 0
  | k + 1 => if outK n sd k = true ∧ innK n sd k = false then capK n sd k + (n.arcs.getD k Arc.none).cap else capK n sd k
def cutTK (n : Net) (f : List Int) (sd : List Bool) (k : Nat) : Prop := ¬ (outK n sd k = true ∧ innK n sd k = false ∧ f.getD k 0 < (n.arcs.getD k Arc.none).cap) ∧ ¬ (outK n sd k = false ∧ innK n sd k = true ∧ f.getD k 0 > 0)
def cutTP (n : Net) (f : List Int) (sd : List Bool) : Prop := (cutP n sd ∧ withinP n f) ∧ ∀ k : Nat, k < n.arcs.length → cutTK n f sd k
instance (n : Net) (f : List Int) (sd : List Bool) (k : Nat) : Decidable (cutTK n f sd k) := by unfold cutTK; infer_instance
instance (n : Net) (f : List Int) (sd : List Bool) : Decidable (cutTP n f sd) := by unfold cutTP; infer_instance
def capR (n : Net) (sd : List Bool) : Int × Int := if cutP n sd then (capK n sd n.arcs.length, 0) else (0, 2)
theorem cap_y {n : Net} {sd : List Bool} {k : Nat} (ho : outK n sd k = true) (hd : (outK n sd k != innK n sd k) = true) : capK n sd (k + 1) = capK n sd k + (n.arcs.getD k Arc.none).cap := by
  simp only [capK]; rw [ho] at hd; rw [if_pos ⟨ho, by cases h : innK n sd k <;> rw [h] at hd <;> first | rfl | exact absurd hd (by decide)⟩]
theorem cap_n {n : Net} {sd : List Bool} {k : Nat} (ho : outK n sd k = false) : capK n sd (k + 1) = capK n sd k := by
  simp only [capK]; rw [if_neg (fun q => by rw [q.1] at ho; exact absurd ho (by decide))]
theorem cap_e {n : Net} {sd : List Bool} {k : Nat} (hd : (outK n sd k != innK n sd k) = false) : capK n sd (k + 1) = capK n sd k := by
  simp only [capK]; rw [if_neg (fun q => by rw [q.1, q.2] at hd; exact absurd hd (by decide))]
theorem capR_y {n : Net} {sd : List Bool} (h : cutP n sd) : capR n sd = (capK n sd n.arcs.length, 0) := by unfold capR; rw [if_pos h]
theorem capR_n {n : Net} {sd : List Bool} (h : ¬ cutP n sd) : capR n sd = (0, 2) := by unfold capR; rw [if_neg h]
theorem tight_ok {n : Net} {f : List Int} {sd : List Bool} {k : Nat} (hd : (outK n sd k != innK n sd k) = true) (hq : ¬ ((outK n sd k = true ∧ f.getD k 0 < (n.arcs.getD k Arc.none).cap) ∨ (¬ outK n sd k = true ∧ f.getD k 0 > 0))) : cutTK n f sd k :=
  ⟨fun q => hq (.inl ⟨q.1, q.2.2⟩), fun q => hq (.inr ⟨by rw [q.1]; decide, q.2.2⟩)⟩
theorem tight_eq {n : Net} {f : List Int} {sd : List Bool} {k : Nat} (hd : ¬ (outK n sd k != innK n sd k) = true) : cutTK n f sd k :=
  ⟨fun q => hd (by rw [q.1, q.2.1]; decide), fun q => hd (by rw [q.1, q.2.1]; decide)⟩
theorem tight_no {n : Net} {f : List Int} {sd : List Bool} {k : Nat} (hd : (outK n sd k != innK n sd k) = true) (hq : (outK n sd k = true ∧ f.getD k 0 < (n.arcs.getD k Arc.none).cap) ∨ (¬ outK n sd k = true ∧ f.getD k 0 > 0)) : ¬ cutTK n f sd k := fun q => by
  rcases hq with ⟨a, b⟩ | ⟨a, b⟩
  · refine q.1 ⟨a, ?_, b⟩
    cases h : innK n sd k
    · rfl
    · rw [a, h] at hd; exact absurd hd (by decide)
  · refine q.2 ⟨by simpa using a, ?_, b⟩
    cases h : innK n sd k
    · rw [show outK n sd k = false by simpa using a, h] at hd; exact absurd hd (by decide)
    · rfl
theorem cut_dec {n : Net} {sd : List Bool} (hn : 2 ≤ n.N) : decide (cutP n sd) = (((sd.length : Nat) : Int) == n.N && sd.getD n.S.toNat false && !(sd.getD n.T.toNat false)) := by
  refine Bool.eq_iff_iff.2 ⟨fun q => ?_, fun q => decide_eq_true ?_⟩
  · obtain ⟨a, b, c⟩ := of_decide_eq_true q
    rw [b, c, show (((sd.length : Nat) : Int) == n.N) = true from beq_iff_eq.2 (by omega)]; rfl
  · simp only [Bool.and_eq_true, beq_iff_eq, Bool.not_eq_true'] at q
    exact ⟨by omega, q.1.2, q.2⟩
theorem capK_in {n : Net} (h : NetOK n) (sd : List Bool) : ∀ k, k ≤ n.arcs.length → 0 ≤ capK n sd k ∧ capK n sd k ≤ capSum (n.arcs.take k)
  | 0, _ => by simp [capK, capSum]
  | k + 1, hk => by
    have ih := capK_in h sd k (by omega)
    have ha := h.arc (show k < n.arcs.length by omega)
    rw [take_capSum (by omega)]
    unfold capK
    split <;> omega
set_option maxHeartbeats 8000000 in
set_option synthInstance.maxHeartbeats 400000 in
set_option synthInstance.maxSize 2000 in
theorem t_has (sd : List Bool) (v : Int) (hv : 0 ≤ v ∧ v < sd.length) (hs : sd.length ≤ 9223372036854775807) : Tri Try.prog 88 [.slc 0 0 sd.length none, .val (.int .i64 v)] [SO.bools false sd] (fun s H => s = .val (.bool (sd.getD v.toNat false)) ∧ H = [SO.bools false sd]) := by
  refine tri_of_w (fn := Try.f88) Try.func88 rfl (by simp [Try.f88]) ?_
  intro ρ w hρ
  refine w_seq ?_
  refine w_region ?_
  refine rw_t 4 rfl rfl rfl (do_assign rfl ?_)
  refine rw_nil ?_
  refine w_env [(0, .slc 0 0 sd.length none), (1, .val (.int .i64 v))] ⟨⟨_, rfl, rfl⟩, ⟨_, rfl, rfl⟩, trivial⟩ ?_
  refine w_seqB 4 ((v < ((sd.length : Nat) : Int) ∧ (sd.getD v.toNat false) = true)) ?_ ?_
  · -- region 1
    refine w_region ?_
    refine rw_t 5 rfl rfl rfl (do_move rfl ?_)
    refine rw_t 6 rfl rfl rfl (do_move rfl ?_)
    refine rw_t 7 rfl rfl rfl (do_len rfl ?_)
    refine rw_t 8 rfl rfl rfl (do_bin rfl rfl rfl ?_)
    refine rw_t 9 rfl rfl rfl (do_move rfl ?_)
    refine rw_case 9 rfl (fun g1 => ?_) (fun g1 => ?_)
    · have kg1 := g1
      try simp only [bs] at kg1
      refine rw_gt 10 4 9 true rfl rfl rfl rfl rfl rfl g1 (do_move rfl ?_)
      refine rw_gt 11 4 9 true rfl rfl rfl rfl rfl rfl g1 (do_move rfl ?_)
      refine rw_gt 12 4 9 true rfl rfl rfl rfl rfl rfl g1 (do_ix0 rfl rfl rfl (by first | omega | (simp only [ls] <;> omega)) ?_)
      refine rw_gt 13 4 9 true rfl rfl rfl rfl rfl rfl g1 (do_load_arr rfl rfl (by first | omega | (simp only [ls] <;> omega)) rfl ?_)
      refine rw_t 14 rfl rfl rfl (do_pick_t rfl g1 rfl ?_)
      refine rw_t 4 rfl rfl rfl (do_assign rfl ?_)
      refine rw_nil ?_
      refine ⟨rfl, ⟨_, rfl, by first | (simp; done) | (simp only [bs]; omega) | (simp [*]; done) | (simp; omega) | (constructor <;> intro h <;> simp_all <;> omega)⟩, ?_⟩
      repeat (refine ⟨⟨_, rfl, rfl⟩, ?_⟩)
      exact trivial
    · have kg1 := g1
      try simp only [bs] at kg1
      refine rw_gf 10 4 9 true rfl rfl rfl rfl rfl rfl (by rw [g1]; decide) ?_
      refine rw_gf 11 4 9 true rfl rfl rfl rfl rfl rfl (by rw [g1]; decide) ?_
      refine rw_gf 12 4 9 true rfl rfl rfl rfl rfl rfl (by rw [g1]; decide) ?_
      refine rw_gf 13 4 9 true rfl rfl rfl rfl rfl rfl (by rw [g1]; decide) ?_
      refine rw_t 14 rfl rfl rfl (do_pick_f rfl g1 rfl ?_)
      refine rw_t 4 rfl rfl rfl (do_assign rfl ?_)
      refine rw_nil ?_
      refine ⟨rfl, ⟨_, rfl, by first | (simp; done) | (simp only [bs]; omega) | (simp [*]; done) | (simp; omega) | (constructor <;> intro h <;> simp_all <;> omega)⟩, ?_⟩
      repeat (refine ⟨⟨_, rfl, rfl⟩, ?_⟩)
      exact trivial
  intro b1 hb1
  refine w_ret ?_
  exact ret_eq (.inl rfl) (.cons (res_tmp rfl) .nil) [0] (Eq.symm (bool_congr ((Bool.eq_iff_iff.2 ⟨fun q => hb1.2 ⟨by omega, q⟩, fun q => (hb1.1 q).2⟩)))) ⟨shR rfl, trivial⟩ rfl (pre_ok rfl)
set_option maxHeartbeats 8000000 in
set_option synthInstance.maxHeartbeats 400000 in
set_option synthInstance.maxSize 2000 in
theorem t_cRight (n : Net) (h : NetOK n) (sd : List Bool) (hl : sd.length ≤ 9223372036854775807) : Tri Try.prog 70 [.agg [.val (.int .i64 n.N), .val (.int .i64 n.S), .val (.int .i64 n.T), .slc 0 0 n.arcs.length none], .slc 1 0 sd.length none] [SO.arcs false n.arcs, SO.bools false sd] (fun s H => s = .val (.bool (decide (cutP n sd))) ∧ H = [SO.arcs false n.arcs, SO.bools false sd]) := by
  refine tri_of_w (fn := Try.f70) Try.func70 rfl (by simp [Try.f70]) ?_
  intro ρ w hρ
  refine w_seq ?_
  have hS := h.s
  have hT := h.t
  have hlo := h.lo
  refine w_region ?_
  refine rw_t 2 rfl rfl rfl (n_box_agg (n := 2) rfl rfl ?_)
  refine rw_t 4 rfl rfl rfl (do_assign rfl ?_)
  refine rw_nil ?_
  refine w_seq ?_
  refine w_region ?_
  refine rw_t 5 rfl rfl rfl (n_load_boxagg [_, _, _, _] rfl rfl (Nat.le_of_ble_eq_true rfl) rfl ?_)
  refine rw_t 6 rfl rfl rfl (do_callR (X' := .val (.int .i64 0)) rfl rfl (t_pCheck (n := n) (h)) [0] ⟨.inr ⟨_, rfl, srv⟩, trivial⟩ rfl rfl rfl ?_)
  refine rw_t 7 rfl rfl rfl (do_bin rfl rfl rfl ?_)
  refine rw_t 8 rfl rfl rfl (do_move rfl ?_)
  refine rw_gt 9 3 8 true rfl rfl rfl rfl rfl rfl (by decide) (do_move rfl ?_)
  refine rw_gt 10 3 8 true rfl rfl rfl rfl rfl rfl (by decide) (do_len rfl ?_)
  refine rw_gt 11 3 8 true rfl rfl rfl rfl rfl rfl (by decide) (do_fieldaddr rfl ?_)
  refine rw_gt 12 3 8 true rfl rfl rfl rfl rfl rfl (by decide) (do_load_box rfl rfl rfl ?_)
  refine rw_gt 13 3 8 true rfl rfl rfl rfl rfl rfl (by decide) (do_bin rfl rfl rfl ?_)
  refine rw_t 14 rfl rfl rfl (do_pick_t rfl (by decide) rfl ?_)
  refine rw_t 15 rfl rfl rfl (do_move rfl ?_)
  refine rw_case 15 rfl (fun g1 => ?_) (fun g1 => ?_)
  · have kg1 := g1
    try simp only [bs] at kg1
    refine rw_gt 16 10 15 true rfl rfl rfl rfl rfl rfl g1 (do_move rfl ?_)
    refine rw_gt 17 10 15 true rfl rfl rfl rfl rfl rfl g1 (do_fieldaddr rfl ?_)
    refine rw_gt 18 10 15 true rfl rfl rfl rfl rfl rfl g1 (do_load_box rfl rfl rfl ?_)
    refine rw_gt 19 10 15 true rfl rfl rfl rfl rfl rfl g1 (do_ix0 rfl rfl rfl (by first | omega | (simp only [ls] <;> omega)) ?_)
    refine rw_gt 20 10 15 true rfl rfl rfl rfl rfl rfl g1 (do_load_arr rfl rfl (by first | omega | (simp only [ls] <;> omega)) rfl ?_)
    refine rw_t 21 rfl rfl rfl (do_pick_t rfl g1 rfl ?_)
    refine rw_t 22 rfl rfl rfl (do_move rfl ?_)
    refine rw_case 22 rfl (fun g2 => ?_) (fun g2 => ?_)
    · have kg2 := g2
      try simp only [bs] at kg2
      refine rw_gt 23 17 22 true rfl rfl rfl rfl rfl rfl g2 (do_move rfl ?_)
      refine rw_gt 24 17 22 true rfl rfl rfl rfl rfl rfl g2 (do_fieldaddr rfl ?_)
      refine rw_gt 25 17 22 true rfl rfl rfl rfl rfl rfl g2 (do_load_box rfl rfl rfl ?_)
      refine rw_gt 26 17 22 true rfl rfl rfl rfl rfl rfl g2 (do_ix0 rfl rfl rfl (by first | omega | (simp only [ls] <;> omega)) ?_)
      refine rw_gt 27 17 22 true rfl rfl rfl rfl rfl rfl g2 (do_load_arr rfl rfl (by first | omega | (simp only [ls] <;> omega)) rfl ?_)
      refine rw_gt 28 17 22 true rfl rfl rfl rfl rfl rfl g2 (do_not rfl ?_)
      refine rw_t 29 rfl rfl rfl (do_pick_t rfl g2 rfl ?_)
      refine rw_t 4 rfl rfl rfl (do_assign rfl ?_)
      refine rw_nil ?_
      refine w_ret ?_
      exact ret_eq (.inl rfl) (.cons (res_tmp rfl) .nil) [0, 1] (Eq.symm (bool_congr ((by rw [cut_dec hlo]; simp_all)))) ⟨shR rfl, shR rfl, trivial⟩ rfl (pre_ok rfl)
    · have kg2 := g2
      try simp only [bs] at kg2
      refine rw_gf 23 17 22 true rfl rfl rfl rfl rfl rfl (by rw [g2]; decide) ?_
      refine rw_gf 24 17 22 true rfl rfl rfl rfl rfl rfl (by rw [g2]; decide) ?_
      refine rw_gf 25 17 22 true rfl rfl rfl rfl rfl rfl (by rw [g2]; decide) ?_
      refine rw_gf 26 17 22 true rfl rfl rfl rfl rfl rfl (by rw [g2]; decide) ?_
      refine rw_gf 27 17 22 true rfl rfl rfl rfl rfl rfl (by rw [g2]; decide) ?_
      refine rw_gf 28 17 22 true rfl rfl rfl rfl rfl rfl (by rw [g2]; decide) ?_
      refine rw_t 29 rfl rfl rfl (do_pick_f rfl g2 rfl ?_)
      refine rw_t 4 rfl rfl rfl (do_assign rfl ?_)
      refine rw_nil ?_
      refine w_ret ?_
      exact ret_eq (.inl rfl) (.cons (res_tmp rfl) .nil) [0, 1] (Eq.symm (bool_congr ((by rw [cut_dec hlo]; simp_all)))) ⟨shR rfl, shR rfl, trivial⟩ rfl (pre_ok rfl)
  · have kg1 := g1
    try simp only [bs] at kg1
    refine rw_gf 16 10 15 true rfl rfl rfl rfl rfl rfl (by rw [g1]; decide) ?_
    refine rw_gf 17 10 15 true rfl rfl rfl rfl rfl rfl (by rw [g1]; decide) ?_
    refine rw_gf 18 10 15 true rfl rfl rfl rfl rfl rfl (by rw [g1]; decide) ?_
    refine rw_gf 19 10 15 true rfl rfl rfl rfl rfl rfl (by rw [g1]; decide) ?_
    refine rw_gf 20 10 15 true rfl rfl rfl rfl rfl rfl (by rw [g1]; decide) ?_
    refine rw_t 21 rfl rfl rfl (do_pick_f rfl g1 rfl ?_)
    refine rw_t 22 rfl rfl rfl (do_move rfl ?_)
    refine rw_gf 23 17 22 true rfl rfl rfl rfl rfl rfl (by decide) ?_
    refine rw_gf 24 17 22 true rfl rfl rfl rfl rfl rfl (by decide) ?_
    refine rw_gf 25 17 22 true rfl rfl rfl rfl rfl rfl (by decide) ?_
    refine rw_gf 26 17 22 true rfl rfl rfl rfl rfl rfl (by decide) ?_
    refine rw_gf 27 17 22 true rfl rfl rfl rfl rfl rfl (by decide) ?_
    refine rw_gf 28 17 22 true rfl rfl rfl rfl rfl rfl (by decide) ?_
    refine rw_t 29 rfl rfl rfl (do_pick_f rfl rfl rfl ?_)
    refine rw_t 4 rfl rfl rfl (do_assign rfl ?_)
    refine rw_nil ?_
    refine w_ret ?_
    exact ret_eq (.inl rfl) (.cons (res_tmp rfl) .nil) [0, 1] (Eq.symm (bool_congr ((by rw [cut_dec hlo]; simp_all)))) ⟨shR rfl, shR rfl, trivial⟩ rfl (pre_ok rfl)
set_option maxHeartbeats 8000000 in
set_option synthInstance.maxHeartbeats 400000 in
set_option synthInstance.maxSize 2000 in
theorem t_across (n : Net) (sd : List Bool) : Tri Try.prog 71 [.agg [.val (.int .i64 n.N), .val (.int .i64 n.S), .val (.int .i64 n.T), .slc 0 0 n.arcs.length none], .slc 1 0 sd.length none] [SO.arcs false n.arcs, SO.bools false sd] (fun s H => s = .func 87 [] [.ptr 2 0 0, .ptr 3 0 0] ∧ H = [SO.arcs false n.arcs, SO.bools false sd, .box [.val (.int .i64 n.N), .val (.int .i64 n.S), .val (.int .i64 n.T), .slc 0 0 n.arcs.length none], .box [.slc 1 0 sd.length none]]) := by
  refine tri_of_w (fn := Try.f71) Try.func71 rfl (by simp [Try.f71]) ?_
  intro ρ w hρ
  refine w_seq ?_
  refine w_region ?_
  refine rw_t 2 rfl rfl rfl (n_box_agg (n := 2) rfl rfl ?_)
  refine rw_t 3 rfl rfl rfl (n_box (n := 3) rfl rfl rfl ?_)
  refine rw_t 4 rfl rfl rfl (do_assign rfl ?_)
  refine rw_nil ?_
  refine w_seq ?_
  refine w_region ?_
  refine rw_t 5 rfl rfl rfl (do_makefunc rfl rfl ?_)
  refine rw_t 4 rfl rfl rfl (do_assign rfl ?_)
  refine rw_nil ?_
  refine w_ret ?_
  exact ret_eq (.inl rfl) (.cons (res_tmp rfl) .nil) [0, 1, 2, 3] (rfl) ⟨shR rfl, shR rfl, shR rfl, shR rfl, trivial⟩ rfl (pre_ok rfl)
end Go.Proofs

set_option linter.unusedVariables false
set_option linter.unusedSimpArgs false
namespace Go.Proofs
open Go Go.Sx Go.RowKit
set_option maxHeartbeats 8000000 in
set_option synthInstance.maxHeartbeats 400000 in
set_option synthInstance.maxSize 2000 in
theorem t_Cap (n : Net) (h : NetOK n) (sd : List Bool) (hl : sd.length ≤ 9223372036854775807) : Tri Try.prog 39 [.agg [.val (.int .i64 n.N), .val (.int .i64 n.S), .val (.int .i64 n.T), .slc 0 0 n.arcs.length none], .slc 1 0 sd.length none] [SO.arcs false n.arcs, SO.bools false sd] (fun s H => s = .tup [.val (.int .i64 ((capR n sd).1)), .val (.int .i64 ((capR n sd).2))] ∧ H = [SO.arcs false n.arcs, SO.bools false sd]) := by
  refine tri_of_w (fn := Try.f39) Try.func39 rfl (by simp [Try.f39]) ?_
  intro ρ w hρ
  refine w_seq ?_
  have hm := h.many
  refine w_region ?_
  refine rw_t 2 rfl rfl rfl (n_box_agg (n := 2) rfl rfl ?_)
  refine rw_t 4 rfl rfl rfl (do_assign rfl ?_)
  refine rw_t 5 rfl rfl rfl (do_assign rfl ?_)
  refine rw_nil ?_
  refine w_seq ?_
  refine w_seq ?_
  refine w_region ?_
  refine rw_t 9 rfl rfl rfl (n_load_boxagg [_, _, _, _] rfl rfl (Nat.le_of_ble_eq_true rfl) rfl ?_)
  refine rw_t 10 rfl rfl rfl (do_move rfl ?_)
  refine rw_t 11 rfl rfl rfl (do_callR (X' := .val (.bool (decide (cutP n sd)))) rfl rfl (t_cRight (n := n) (sd := sd) (h) (hl)) [0, 1] ⟨.inr ⟨_, rfl, srv⟩, .inr ⟨_, rfl, srv⟩, trivial⟩ rfl rfl rfl ?_)
  refine rw_t 12 rfl rfl rfl (do_not rfl ?_)
  refine rw_nil ?_
  refine w_cond rfl (fun hc1 => ?_) (fun hc1 => ?_)
  all_goals try simp only [bs] at hc1
  · refine w_seq ?_
    refine w_region ?_
    refine rw_t 4 rfl rfl rfl (do_assign rfl ?_)
    refine rw_t 5 rfl rfl rfl (do_assign rfl ?_)
    refine rw_nil ?_
    refine w_ret ?_
    exact ret_eq (.inl rfl) (.cons (res_tmp rfl) (.cons (res_tmp rfl) .nil)) [0, 1] (by rw [capR_n (by assumption)]; rfl) ⟨shR rfl, shR rfl, trivial⟩ rfl (pre_ok rfl)
  refine w_skip ?_
  refine w_seq ?_
  have hr : cutP n sd := by assumption
  refine w_region ?_
  refine rw_t 6 rfl rfl rfl (n_alloc (n := 3) rfl ?_)
  refine rw_u rfl rfl (n_store_box (f := 0) rfl rfl rfl (Nat.le_of_ble_eq_true rfl) rfl ?_)
  refine rw_nil ?_
  refine w_seq ?_
  refine w_seq ?_
  refine w_region ?_
  refine rw_t 13 rfl rfl rfl (n_load_boxagg [_, _, _, _] rfl rfl (Nat.le_of_ble_eq_true rfl) rfl ?_)
  refine rw_t 14 rfl rfl rfl (do_move rfl ?_)
  refine rw_t 15 rfl rfl rfl (n_callN (X' := .func 87 [] [.ptr 4 0 0, .ptr 5 0 0]) (N' := [.box [.val (.int .i64 n.N), .val (.int .i64 n.S), .val (.int .i64 n.T), .slc 0 0 n.arcs.length none], .box [.slc 1 0 sd.length none]]) rfl rfl (t_across (n := n) (sd := sd)) [0, 1] ⟨.inr ⟨_, rfl, srv⟩, .inr ⟨_, rfl, srv⟩, trivial⟩ rfl rfl rfl rfl rfl ?_)
  refine rw_nil ?_
  refine w_block ?_
  refine w_rf [(2, .ptr 2 0 0), (4, .val (.int .i64 0)), (5, .val (.int .i64 0)), (6, .ptr 3 0 0)] 6 [.yield 6, .ptr 4 0 0, .ptr 5 0 0] (fun q1 => [SO.arcs false n.arcs, SO.bools false sd, .box [.val (.int .i64 n.N), .val (.int .i64 n.S), .val (.int .i64 n.T), .slc 0 0 n.arcs.length none], .box [.val (.int .i64 0)], .box [.val (.int .i64 n.N), .val (.int .i64 n.S), .val (.int .i64 n.T), .slc 0 0 n.arcs.length none], .box [.slc 1 0 sd.length none], .gen [.ptr 2 0 0, .val (.int .i64 0), .val (.int .i64 0), .ptr 3 0 0] (q1 .ready none)]) rfl rfl rfl rfl (fun _ => rfl) ⟨⟨_, rfl, rfl⟩, ⟨_, rfl, rfl⟩, ⟨_, rfl, rfl⟩, ⟨_, rfl, rfl⟩, trivial⟩ (fun q1 hq1 => ?_)
  refine tri_of_w (fn := Try.f87) Try.func87 rfl (by simp [Try.f87]) ?_
  intro ρr1 wr1 hρ1
  refine w_seq ?_
  refine w_region ?_
  refine rw_t 7 rfl rfl rfl (do_fieldaddr rfl ?_)
  refine rw_t 8 rfl rfl rfl (do_load_box rfl rfl rfl ?_)
  refine rw_t 9 rfl rfl rfl (do_len rfl ?_)
  refine rw_t 10 rfl rfl rfl (do_move rfl ?_)
  refine rw_nil ?_
  refine w_block ?_
  refine w_loopS (ι := Nat) (fun i => [(0, .yield 6), (2, .ptr 5 0 0), (8, .slc 0 0 n.arcs.length none), (9, .val (.int .i64 ((n.arcs.length : Nat) : Int))), (10, .val (.int .i64 ((i : Nat) : Int)))]) (fun i => [SO.arcs false n.arcs, SO.bools false sd, .box [.val (.int .i64 n.N), .val (.int .i64 n.S), .val (.int .i64 n.T), .slc 0 0 n.arcs.length none], .box [.val (.int .i64 (capK n sd i))], .box [.val (.int .i64 n.N), .val (.int .i64 n.S), .val (.int .i64 n.T), .slc 0 0 n.arcs.length none], .box [.slc 1 0 sd.length none], .gen [.ptr 2 0 0, .val (.int .i64 0), .val (.int .i64 0), .ptr 3 0 0] (q1 .ready none)]) (fun i => n.arcs.length - i) (fun i => i ≤ n.arcs.length) (0) [0, 1, 2, 3, 4, 5, 6] (by simp) ⟨shR rfl, shR rfl, shR rfl, .inr ⟨_, rfl, .inl (box_congr (cons_congr (val_congr (rfl)) ((rfl : ([] : List SV) = []))))⟩, shR rfl, shR rfl, shR rfl, trivial⟩ rfl (pre_ok rfl) hρ1 ⟨⟨_, rfl, rfl⟩, ⟨_, rfl, rfl⟩, ⟨_, rfl, rfl⟩, ⟨_, rfl, rfl⟩, ⟨_, rfl, rfl⟩, trivial⟩ ?_
  intro i hi
  refine w_seq ?_
  refine w_region ?_
  refine rw_t 11 rfl rfl rfl (do_bin rfl rfl rfl ?_)
  refine rw_nil ?_
  refine w_seq ?_
  refine w_cond rfl (fun hc2 => ?_) (fun hc2 => ?_)
  all_goals try simp only [bs] at hc2
  rotate_left
  · refine w_exit ?_
    refine ret_iter (.inr rfl) rfl (Y := [SO.arcs false n.arcs, SO.bools false sd, .box [.val (.int .i64 n.N), .val (.int .i64 n.S), .val (.int .i64 n.T), .slc 0 0 n.arcs.length none], .box [.val (.int .i64 (capK n sd i))], .box [.val (.int .i64 n.N), .val (.int .i64 n.S), .val (.int .i64 n.T), .slc 0 0 n.arcs.length none], .box [.slc 1 0 sd.length none], .gen [.ptr 2 0 0, .val (.int .i64 0), .val (.int .i64 0), .ptr 3 0 0] (q1 .ready none)]) [0, 1, 2, 3, 4, 5, 6] ⟨shR rfl, shR rfl, shR rfl, shR rfl, shR rfl, shR rfl, shR rfl, trivial⟩ rfl (pre_ok rfl) ?_
    refine iter_none rfl ?_
    refine w_seq ?_
    refine w_region ?_
    refine rw_t 27 rfl rfl rfl (do_load_box rfl rfl rfl ?_)
    refine rw_t 4 rfl rfl rfl (do_assign rfl ?_)
    refine rw_t 5 rfl rfl rfl (do_assign rfl ?_)
    refine rw_nil ?_
    have hi' : i = n.arcs.length := by omega
    subst hi'
    
    refine w_ret ?_
    exact ret_eq (.inl rfl) (.cons (res_tmp rfl) (.cons (res_tmp rfl) .nil)) [0, 1] (by rw [capR_y hr]; rfl) ⟨shR rfl, shR rfl, trivial⟩ rfl (pre_ok rfl)
  refine w_skip ?_
  refine w_seq ?_
  refine w_block ?_
  refine w_seq ?_
  refine w_region ?_
  refine rw_t 12 rfl rfl rfl (do_move rfl ?_)
  refine rw_t 13 rfl rfl rfl (do_ixn rfl rfl rfl (by first | omega | (simp only [ls] <;> omega)) ?_)
  refine rw_t 14 rfl rfl rfl (n_load_arragg [_, _, _] rfl rfl rfl (by first | omega | (simp only [ls] <;> omega)) rfl ?_)
  refine rw_t 5 rfl rfl rfl (n_alloc (n := 7) rfl ?_)
  refine rw_t 4 rfl rfl rfl (do_assign rfl ?_)
  refine rw_u rfl rfl (n_store_whole rfl rfl rfl rfl rfl rfl ?_)
  refine rw_nil ?_
  refine w_seq ?_
  have ha := h.arc (show i < n.arcs.length by omega)
  have he := h.ends _ (getD_mem Arc.none (show i < n.arcs.length by omega))
  have hlo := h.lo
  have hsl := hr.1
  refine w_region ?_
  refine rw_t 15 rfl rfl rfl (do_load_box rfl rfl rfl ?_)
  refine rw_t 16 rfl rfl rfl (do_fieldaddr rfl ?_)
  refine rw_t 17 rfl rfl rfl (do_load_box rfl rfl rfl ?_)
  refine rw_t 18 rfl rfl rfl (do_callR (X' := .val (.bool (sd.getD ((n.arcs.getD i Arc.none).frm).toNat false))) rfl rfl (t_has (sd := sd) (v := (n.arcs.getD i Arc.none).frm) (by omega) (by omega)) [1] ⟨.inr ⟨_, rfl, srv⟩, trivial⟩ rfl rfl rfl ?_)
  refine rw_t 6 rfl rfl rfl (do_assign rfl ?_)
  refine rw_nil ?_
  refine w_seq ?_
  refine w_region ?_
  refine rw_t 19 rfl rfl rfl (do_move rfl ?_)
  refine rw_t 20 rfl rfl rfl (do_load_box rfl rfl rfl ?_)
  refine rw_t 21 rfl rfl rfl (do_fieldaddr rfl ?_)
  refine rw_t 22 rfl rfl rfl (do_load_box rfl rfl rfl ?_)
  refine rw_t 23 rfl rfl rfl (do_callR (X' := .val (.bool (sd.getD ((n.arcs.getD i Arc.none).to).toNat false))) rfl rfl (t_has (sd := sd) (v := (n.arcs.getD i Arc.none).to) (by omega) (by omega)) [1] ⟨.inr ⟨_, rfl, srv⟩, trivial⟩ rfl rfl rfl ?_)
  refine rw_t 24 rfl rfl rfl (do_neB rfl rfl ?_)
  refine rw_t 25 rfl rfl rfl (do_move rfl ?_)
  refine rw_case 25 rfl (fun g1 => ?_) (fun g1 => ?_)
  · have kg1 := g1
    try simp only [bs] at kg1
    refine rw_gt 26 6 25 true rfl rfl rfl rfl rfl rfl g1 (do_move rfl ?_)
    refine rw_gt 27 6 25 true rfl rfl rfl rfl rfl rfl g1 (do_move rfl ?_)
    refine rw_gt 28 6 25 true rfl rfl rfl rfl rfl rfl g1 (do_move rfl ?_)
    refine rw_gt 29 6 25 true rfl rfl rfl rfl rfl rfl g1 (do_yieldQ [(17, .val (.bool (sd.getD ((n.arcs.getD i Arc.none).frm).toNat false))), (16, .val (.int .i64 ((i : Nat) : Int))), (2, .ptr 2 0 0), (4, .val (.int .i64 0)), (5, .val (.int .i64 0)), (6, .ptr 3 0 0)] hq1 rfl rfl rfl rfl rfl rfl (fun ρr2 wr2 lr2 hρ2 => ?_))
    refine w_seq ?_
    refine w_region ?_
    refine rw_t 7 rfl rfl rfl (do_assign rfl ?_)
    refine rw_nil ?_
    refine w_region ?_
    refine rw_t 8 rfl rfl rfl (do_assign rfl ?_)
    refine rw_nil ?_
    refine asg_done rfl ?_
    refine w_block ?_
    refine w_seq ?_
    refine w_region ?_
    refine rw_t 18 rfl rfl rfl (do_move rfl ?_)
    refine rw_nil ?_
    refine w_cond rfl (fun hc3 => ?_) (fun hc3 => ?_)
    all_goals try simp only [bs] at hc3
    · have hk1 := capK_in h sd i (by omega)
      have hk2 := h.part i
      have hk3 := h.part (i + 1)
      have hk4 := take_capSum (show i < n.arcs.length by omega)
      refine w_draw mixed [0, 0, 2, 0, 14, 30, 62] [127, 255] (by kernel_rfl) (by kernel_rfl) rfl rfl rfl (hle hρ2 rfl) ?_
      refine ra_q (j := 0) rfl rfl rfl rfl (do_load_box rfl rfl rfl ⟨rfl, rfl⟩) (by rfl) ?_
      refine ra_q (j := 1) rfl rfl rfl rfl (do_fieldaddr rfl ⟨rfl, rfl⟩) (by rfl) ?_
      refine ra_q (j := 2) rfl rfl rfl rfl (do_load_box rfl rfl rfl ⟨rfl, rfl⟩) (by rfl) ?_
      refine ra_q (j := 3) rfl rfl rfl rfl (do_move rfl ⟨rfl, rfl⟩) (by rfl) ?_
      refine ra_q (j := 4) rfl rfl rfl rfl (do_ixn rfl rfl rfl (by first | omega | (simp only [ls] <;> omega)) ⟨rfl, rfl⟩) (by rfl) ?_
      refine ra_q (j := 5) rfl rfl rfl rfl (do_fieldaddr rfl ⟨rfl, rfl⟩) (by rfl) ?_
      refine ra_q (j := 6) rfl rfl rfl rfl (do_load_arr rfl rfl (by first | omega | (simp only [ls] <;> omega)) rfl ⟨rfl, rfl⟩) (by rfl) ?_
      refine n_done ?_
      refine rw_t 26 rfl rfl rfl (do_add rfl rfl (by omega) ?_)
      refine rw_u rfl rfl (n_store_box (f := 0) rfl rfl rfl (Nat.le_of_ble_eq_true rfl) rfl ?_)
      refine rw_nil ?_
      repeat (with_reducible first | refine bl_n ?_ | refine bl_r ?_ | refine nx_r ?_ | refine nx_e ?_ | refine bl_e rfl ?_)
      refine round_normal rfl ?_
      refine rw_gt 30 6 25 true rfl rfl rfl rfl rfl rfl g1 (do_not rfl ?_)
      refine rw_t 31 rfl rfl rfl (do_pick_t rfl g1 rfl ?_)
      refine rw_nil ?_
      refine w_cond rfl (fun hc4 => ?_) (fun hc4 => ?_)
      · exfalso; first | (cases hc4; done) | exact (hc4 trivial) | (try simp only [bs] at hc4; first | omega | (simp_all; done) | (simp_all; omega))
      refine w_skip ?_
      refine w_region ?_
      refine rw_t 32 rfl rfl rfl (do_add rfl rfl (by omega) ?_)
      refine rw_t 10 rfl rfl rfl (do_move rfl ?_)
      refine rw_nil ?_
      refine ⟨i + 1, [0, 1, 2, 3, 4, 5, 6], by dsimp only; omega, by omega, ⟨shR rfl, shR rfl, shR rfl, .inr ⟨_, rfl, .inl (box_congr (cons_congr (val_congr (cap_y hc3 g1)) ((rfl : ([] : List SV) = []))))⟩, shR rfl, shR rfl, shR rfl, trivial⟩, rfl, pre_ok rfl, ⟨⟨_, rfl, rfl⟩, ⟨_, rfl, rfl⟩, ⟨_, rfl, rfl⟩, ⟨_, rfl, rfl⟩, ⟨_, rfl, rfl⟩, trivial⟩⟩
    · refine w_skip ?_
      repeat (with_reducible first | refine bl_n ?_ | refine bl_r ?_ | refine nx_r ?_ | refine nx_e ?_ | refine bl_e rfl ?_)
      refine round_normal rfl ?_
      refine rw_gt 30 6 25 true rfl rfl rfl rfl rfl rfl g1 (do_not rfl ?_)
      refine rw_t 31 rfl rfl rfl (do_pick_t rfl g1 rfl ?_)
      refine rw_nil ?_
      refine w_cond rfl (fun hc5 => ?_) (fun hc5 => ?_)
      · exfalso; first | (cases hc5; done) | exact (hc5 trivial) | (try simp only [bs] at hc5; first | omega | (simp_all; done) | (simp_all; omega))
      refine w_skip ?_
      refine w_region ?_
      refine rw_t 32 rfl rfl rfl (do_add rfl rfl (by omega) ?_)
      refine rw_t 10 rfl rfl rfl (do_move rfl ?_)
      refine rw_nil ?_
      refine ⟨i + 1, [0, 1, 2, 3, 4, 5, 6], by dsimp only; omega, by omega, ⟨shR rfl, shR rfl, shR rfl, .inr ⟨_, rfl, .inl (box_congr (cons_congr (val_congr (cap_n hc3)) ((rfl : ([] : List SV) = []))))⟩, shR rfl, shR rfl, shR rfl, trivial⟩, rfl, pre_ok rfl, ⟨⟨_, rfl, rfl⟩, ⟨_, rfl, rfl⟩, ⟨_, rfl, rfl⟩, ⟨_, rfl, rfl⟩, ⟨_, rfl, rfl⟩, trivial⟩⟩
  · have kg1 := g1
    try simp only [bs] at kg1
    refine rw_gf 26 6 25 true rfl rfl rfl rfl rfl rfl (by rw [g1]; decide) ?_
    refine rw_gf 27 6 25 true rfl rfl rfl rfl rfl rfl (by rw [g1]; decide) ?_
    refine rw_gf 28 6 25 true rfl rfl rfl rfl rfl rfl (by rw [g1]; decide) ?_
    refine rw_gf 29 6 25 true rfl rfl rfl rfl rfl rfl (by rw [g1]; decide) ?_
    refine rw_gf 30 6 25 true rfl rfl rfl rfl rfl rfl (by rw [g1]; decide) ?_
    refine rw_t 31 rfl rfl rfl (do_pick_f rfl g1 rfl ?_)
    refine rw_nil ?_
    refine w_cond rfl (fun hc6 => ?_) (fun hc6 => ?_)
    · exfalso; first | (cases hc6; done) | exact (hc6 trivial) | (try simp only [bs] at hc6; first | omega | (simp_all; done) | (simp_all; omega))
    refine w_skip ?_
    refine w_region ?_
    refine rw_t 32 rfl rfl rfl (do_add rfl rfl (by omega) ?_)
    refine rw_t 10 rfl rfl rfl (do_move rfl ?_)
    refine rw_nil ?_
    refine ⟨i + 1, [0, 1, 2, 3, 4, 5, 6], by dsimp only; omega, by omega, ⟨shR rfl, shR rfl, shR rfl, .inr ⟨_, rfl, .inl (box_congr (cons_congr (val_congr (cap_e (by simpa using g1))) ((rfl : ([] : List SV) = []))))⟩, shR rfl, shR rfl, shR rfl, trivial⟩, rfl, pre_ok rfl, ⟨⟨_, rfl, rfl⟩, ⟨_, rfl, rfl⟩, ⟨_, rfl, rfl⟩, ⟨_, rfl, rfl⟩, ⟨_, rfl, rfl⟩, trivial⟩⟩
set_option maxHeartbeats 8000000 in
set_option synthInstance.maxHeartbeats 400000 in
set_option synthInstance.maxSize 2000 in
theorem t_Tight (n : Net) (h : NetOK n) (f : List Int) (sd : List Bool) (hl : f.length ≤ 9223372036854775807) (hs : sd.length ≤ 9223372036854775807) : Tri Try.prog 40 [.agg [.val (.int .i64 n.N), .val (.int .i64 n.S), .val (.int .i64 n.T), .slc 0 0 n.arcs.length none], .slc 1 0 f.length none, .slc 2 0 sd.length none] [SO.arcs false n.arcs, SO.ints false .i64 f, SO.bools false sd] (fun s H => s = .val (.bool (decide (cutTP n f sd))) ∧ H = [SO.arcs false n.arcs, SO.ints false .i64 f, SO.bools false sd]) := by
  refine tri_of_w (fn := Try.f40) Try.func40 rfl (by simp [Try.f40]) ?_
  intro ρ w hρ
  refine w_seq ?_
  have hm := h.many
  refine w_region ?_
  refine rw_t 3 rfl rfl rfl (n_box_agg (n := 3) rfl rfl ?_)
  refine rw_t 4 rfl rfl rfl (n_box (n := 4) rfl rfl rfl ?_)
  refine rw_t 6 rfl rfl rfl (n_alloc (n := 5) rfl ?_)
  refine rw_nil ?_
  refine w_seq ?_
  refine w_seq ?_
  refine w_region ?_
  refine rw_t 9 rfl rfl rfl (n_load_boxagg [_, _, _, _] rfl rfl (Nat.le_of_ble_eq_true rfl) rfl ?_)
  refine rw_t 10 rfl rfl rfl (do_move rfl ?_)
  refine rw_t 11 rfl rfl rfl (do_callR (X' := .val (.bool (decide (cutP n sd)))) rfl rfl (t_cRight (n := n) (sd := sd) (h) (hs)) [0, 2] ⟨.inr ⟨_, rfl, srv⟩, .inr ⟨_, rfl, srv⟩, trivial⟩ rfl rfl rfl ?_)
  refine rw_t 12 rfl rfl rfl (do_not rfl ?_)
  refine rw_t 13 rfl rfl rfl (do_move rfl ?_)
  refine rw_case 13 rfl (fun g1 => ?_) (fun g1 => ?_)
  · have kg1 := g1
    try simp only [bs] at kg1
    refine rw_gf 14 4 13 false rfl rfl rfl rfl rfl rfl (by rw [g1]; decide) ?_
    refine rw_gf 15 4 13 false rfl rfl rfl rfl rfl rfl (by rw [g1]; decide) ?_
    refine rw_gf 16 4 13 false rfl rfl rfl rfl rfl rfl (by rw [g1]; decide) ?_
    refine rw_gf 17 4 13 false rfl rfl rfl rfl rfl rfl (by rw [g1]; decide) ?_
    refine rw_t 18 rfl rfl rfl (do_pick_t rfl g1 rfl ?_)
    refine rw_nil ?_
    refine w_cond rfl (fun hc1 => ?_) (fun hc1 => ?_)
    rotate_left
    · exfalso; first | (cases hc1; done) | exact (hc1 trivial) | (try simp only [bs] at hc1; first | omega | (simp_all; done) | (simp_all; omega))
    refine w_seq ?_
    refine w_region ?_
    refine rw_u rfl rfl (n_store_box (f := 0) rfl rfl rfl (Nat.le_of_ble_eq_true rfl) rfl ?_)
    refine rw_nil ?_
    refine w_ret ?_
    exact ret_eq (.inl rfl) (.cons (res_one rfl rfl rfl) .nil) [0, 1, 2] (Eq.symm (bool_congr ((decide_eq_false (fun q => absurd q.1.1 (by assumption)))))) ⟨shR rfl, shR rfl, shR rfl, trivial⟩ rfl (pre_ok rfl)
  · have kg1 := g1
    try simp only [bs] at kg1
    refine rw_gt 14 4 13 false rfl rfl rfl rfl rfl rfl g1 (n_load_boxagg [_, _, _, _] rfl rfl (Nat.le_of_ble_eq_true rfl) rfl ?_)
    refine rw_gt 15 4 13 false rfl rfl rfl rfl rfl rfl g1 (do_load_box rfl rfl rfl ?_)
    refine rw_gt 16 4 13 false rfl rfl rfl rfl rfl rfl g1 (do_callR (X' := .val (.bool (decide (withinP n f)))) rfl rfl (t_Within (n := n) (f := f) (h) (hl)) [0, 1] ⟨.inr ⟨_, rfl, srv⟩, .inr ⟨_, rfl, srv⟩, trivial⟩ rfl rfl rfl ?_)
    refine rw_gt 17 4 13 false rfl rfl rfl rfl rfl rfl g1 (do_not rfl ?_)
    refine rw_t 18 rfl rfl rfl (do_pick_f rfl g1 rfl ?_)
    refine rw_nil ?_
    refine w_cond rfl (fun hc2 => ?_) (fun hc2 => ?_)
    all_goals try simp only [bs] at hc2
    · refine w_seq ?_
      refine w_region ?_
      refine rw_u rfl rfl (n_store_box (f := 0) rfl rfl rfl (Nat.le_of_ble_eq_true rfl) rfl ?_)
      refine rw_nil ?_
      refine w_ret ?_
      exact ret_eq (.inl rfl) (.cons (res_one rfl rfl rfl) .nil) [0, 1, 2] (Eq.symm (bool_congr ((decide_eq_false (fun q => absurd q.1.2 (by assumption)))))) ⟨shR rfl, shR rfl, shR rfl, trivial⟩ rfl (pre_ok rfl)
    refine w_skip ?_
    refine w_seq ?_
    refine w_seq ?_
    have hr : cutP n sd := by assumption
    have hw : withinP n f := by assumption
    have hwl := hw.1
    refine w_region ?_
    refine rw_t 19 rfl rfl rfl (n_load_boxagg [_, _, _, _] rfl rfl (Nat.le_of_ble_eq_true rfl) rfl ?_)
    refine rw_t 20 rfl rfl rfl (do_move rfl ?_)
    refine rw_t 21 rfl rfl rfl (n_callN (X' := .func 87 [] [.ptr 6 0 0, .ptr 7 0 0]) (N' := [.box [.val (.int .i64 n.N), .val (.int .i64 n.S), .val (.int .i64 n.T), .slc 0 0 n.arcs.length none], .box [.slc 2 0 sd.length none]]) rfl rfl (t_across (n := n) (sd := sd)) [0, 2] ⟨.inr ⟨_, rfl, srv⟩, .inr ⟨_, rfl, srv⟩, trivial⟩ rfl rfl rfl rfl rfl ?_)
    refine rw_nil ?_
    refine w_block ?_
    refine w_rf [(3, .ptr 3 0 0), (4, .ptr 4 0 0), (6, .ptr 5 0 0)] 8 [.yield 8, .ptr 6 0 0, .ptr 7 0 0] (fun q1 => [SO.arcs false n.arcs, SO.ints false .i64 f, SO.bools false sd, .box [.val (.int .i64 n.N), .val (.int .i64 n.S), .val (.int .i64 n.T), .slc 0 0 n.arcs.length none], .box [.slc 1 0 f.length none], .box [.val (.bool false)], .box [.val (.int .i64 n.N), .val (.int .i64 n.S), .val (.int .i64 n.T), .slc 0 0 n.arcs.length none], .box [.slc 2 0 sd.length none], .gen [.ptr 3 0 0, .ptr 4 0 0, .ptr 5 0 0] (q1 .ready none)]) rfl rfl rfl rfl (fun _ => rfl) ⟨⟨_, rfl, rfl⟩, ⟨_, rfl, rfl⟩, ⟨_, rfl, rfl⟩, trivial⟩ (fun q1 hq1 => ?_)
    refine tri_of_w (fn := Try.f87) Try.func87 rfl (by simp [Try.f87]) ?_
    intro ρr1 wr1 hρ1
    refine w_seq ?_
    refine w_region ?_
    refine rw_t 7 rfl rfl rfl (do_fieldaddr rfl ?_)
    refine rw_t 8 rfl rfl rfl (do_load_box rfl rfl rfl ?_)
    refine rw_t 9 rfl rfl rfl (do_len rfl ?_)
    refine rw_t 10 rfl rfl rfl (do_move rfl ?_)
    refine rw_nil ?_
    refine w_block ?_
    refine w_loopS (ι := Nat) (fun i => [(0, .yield 8), (2, .ptr 7 0 0), (8, .slc 0 0 n.arcs.length none), (9, .val (.int .i64 ((n.arcs.length : Nat) : Int))), (10, .val (.int .i64 ((i : Nat) : Int)))]) (fun i => [SO.arcs false n.arcs, SO.ints false .i64 f, SO.bools false sd, .box [.val (.int .i64 n.N), .val (.int .i64 n.S), .val (.int .i64 n.T), .slc 0 0 n.arcs.length none], .box [.slc 1 0 f.length none], .box [.val (.bool false)], .box [.val (.int .i64 n.N), .val (.int .i64 n.S), .val (.int .i64 n.T), .slc 0 0 n.arcs.length none], .box [.slc 2 0 sd.length none], .gen [.ptr 3 0 0, .ptr 4 0 0, .ptr 5 0 0] (q1 .ready none)]) (fun i => n.arcs.length - i) (fun i => i ≤ n.arcs.length ∧ ∀ k : Nat, k < i → cutTK n f sd k) (0) [0, 1, 2, 3, 4, 5, 6, 7, 8] (⟨by simp, fun k hk => by omega⟩) ⟨shR rfl, shR rfl, shR rfl, shR rfl, shR rfl, shR rfl, shR rfl, shR rfl, shR rfl, trivial⟩ rfl (pre_ok rfl) hρ1 ⟨⟨_, rfl, rfl⟩, ⟨_, rfl, rfl⟩, ⟨_, rfl, rfl⟩, ⟨_, rfl, rfl⟩, ⟨_, rfl, rfl⟩, trivial⟩ ?_
    rintro i ⟨hi, gk⟩
    refine w_seq ?_
    refine w_region ?_
    refine rw_t 11 rfl rfl rfl (do_bin rfl rfl rfl ?_)
    refine rw_nil ?_
    refine w_seq ?_
    refine w_cond rfl (fun hc3 => ?_) (fun hc3 => ?_)
    all_goals try simp only [bs] at hc3
    rotate_left
    · refine w_exit ?_
      refine ret_iter (.inr rfl) rfl (Y := [SO.arcs false n.arcs, SO.ints false .i64 f, SO.bools false sd, .box [.val (.int .i64 n.N), .val (.int .i64 n.S), .val (.int .i64 n.T), .slc 0 0 n.arcs.length none], .box [.slc 1 0 f.length none], .box [.val (.bool false)], .box [.val (.int .i64 n.N), .val (.int .i64 n.S), .val (.int .i64 n.T), .slc 0 0 n.arcs.length none], .box [.slc 2 0 sd.length none], .gen [.ptr 3 0 0, .ptr 4 0 0, .ptr 5 0 0] (q1 .ready none)]) [0, 1, 2, 3, 4, 5, 6, 7, 8] ⟨shR rfl, shR rfl, shR rfl, shR rfl, shR rfl, shR rfl, shR rfl, shR rfl, shR rfl, trivial⟩ rfl (pre_ok rfl) ?_
      refine iter_none rfl ?_
      refine w_seq ?_
      refine w_region ?_
      refine rw_u rfl rfl (n_store_box (f := 0) rfl rfl rfl (Nat.le_of_ble_eq_true rfl) rfl ?_)
      refine rw_nil ?_
      refine w_ret ?_
      exact ret_eq (.inl rfl) (.cons (res_one rfl rfl rfl) .nil) [0, 1, 2] (Eq.symm (bool_congr ((decide_eq_true ⟨⟨hr, hw⟩, fun k hk => gk k (by omega)⟩)))) ⟨shR rfl, shR rfl, shR rfl, trivial⟩ rfl (pre_ok rfl)
    refine w_skip ?_
    refine w_seq ?_
    refine w_block ?_
    refine w_seq ?_
    refine w_region ?_
    refine rw_t 12 rfl rfl rfl (do_move rfl ?_)
    refine rw_t 13 rfl rfl rfl (do_ixn rfl rfl rfl (by first | omega | (simp only [ls] <;> omega)) ?_)
    refine rw_t 14 rfl rfl rfl (n_load_arragg [_, _, _] rfl rfl rfl (by first | omega | (simp only [ls] <;> omega)) rfl ?_)
    refine rw_t 5 rfl rfl rfl (n_alloc (n := 9) rfl ?_)
    refine rw_t 4 rfl rfl rfl (do_assign rfl ?_)
    refine rw_u rfl rfl (n_store_whole rfl rfl rfl rfl rfl rfl ?_)
    refine rw_nil ?_
    refine w_seq ?_
    have ha := h.arc (show i < n.arcs.length by omega)
    have he := h.ends _ (getD_mem Arc.none (show i < n.arcs.length by omega))
    have hlo := h.lo
    have hsl := hr.1
    refine w_region ?_
    refine rw_t 15 rfl rfl rfl (do_load_box rfl rfl rfl ?_)
    refine rw_t 16 rfl rfl rfl (do_fieldaddr rfl ?_)
    refine rw_t 17 rfl rfl rfl (do_load_box rfl rfl rfl ?_)
    refine rw_t 18 rfl rfl rfl (do_callR (X' := .val (.bool (sd.getD ((n.arcs.getD i Arc.none).frm).toNat false))) rfl rfl (t_has (sd := sd) (v := (n.arcs.getD i Arc.none).frm) (by omega) (by omega)) [2] ⟨.inr ⟨_, rfl, srv⟩, trivial⟩ rfl rfl rfl ?_)
    refine rw_t 6 rfl rfl rfl (do_assign rfl ?_)
    refine rw_nil ?_
    refine w_seq ?_
    refine w_region ?_
    refine rw_t 19 rfl rfl rfl (do_move rfl ?_)
    refine rw_t 20 rfl rfl rfl (do_load_box rfl rfl rfl ?_)
    refine rw_t 21 rfl rfl rfl (do_fieldaddr rfl ?_)
    refine rw_t 22 rfl rfl rfl (do_load_box rfl rfl rfl ?_)
    refine rw_t 23 rfl rfl rfl (do_callR (X' := .val (.bool (sd.getD ((n.arcs.getD i Arc.none).to).toNat false))) rfl rfl (t_has (sd := sd) (v := (n.arcs.getD i Arc.none).to) (by omega) (by omega)) [2] ⟨.inr ⟨_, rfl, srv⟩, trivial⟩ rfl rfl rfl ?_)
    refine rw_t 24 rfl rfl rfl (do_neB rfl rfl ?_)
    refine rw_t 25 rfl rfl rfl (do_move rfl ?_)
    refine rw_case 25 rfl (fun g2 => ?_) (fun g2 => ?_)
    · have kg2 := g2
      try simp only [bs] at kg2
      refine rw_gt 26 6 25 true rfl rfl rfl rfl rfl rfl g2 (do_move rfl ?_)
      refine rw_gt 27 6 25 true rfl rfl rfl rfl rfl rfl g2 (do_move rfl ?_)
      refine rw_gt 28 6 25 true rfl rfl rfl rfl rfl rfl g2 (do_move rfl ?_)
      refine rw_gt 29 6 25 true rfl rfl rfl rfl rfl rfl g2 (do_yieldQ [(23, .val (.bool (sd.getD ((n.arcs.getD i Arc.none).frm).toNat false))), (22, .val (.int .i64 ((i : Nat) : Int))), (3, .ptr 3 0 0), (4, .ptr 4 0 0), (6, .ptr 5 0 0)] hq1 rfl rfl rfl rfl rfl rfl (fun ρr2 wr2 lr2 hρ2 => ?_))
      refine w_seq ?_
      refine w_region ?_
      refine rw_t 7 rfl rfl rfl (do_assign rfl ?_)
      refine rw_nil ?_
      refine w_region ?_
      refine rw_t 8 rfl rfl rfl (do_assign rfl ?_)
      refine rw_nil ?_
      refine asg_done rfl ?_
      refine w_block ?_
      have ha6 : i < n.arcs.length := by omega
      refine w_seqB 48 ((((sd.getD ((n.arcs.getD i Arc.none).frm).toNat false) = true ∧ (f.getD i 0) < (n.arcs.getD i Arc.none).cap) ∨ (¬ ((sd.getD ((n.arcs.getD i Arc.none).frm).toNat false) = true) ∧ (f.getD i 0) > 0))) ?_ ?_
      · -- region 6
        refine w_draw mixed [0, 1, 3, 3, 15, 31, 3, 67, 3, 451, 963, 1987, 4095, 8191, 16383, 32767, 65535, 131071, 262143, 262143] [1048575, 2097151, 4194303, 8388607, 16777215] (by kernel_rfl) (by kernel_rfl) rfl rfl rfl (hle hρ2 rfl) ?_
        refine ra_q (j := 0) rfl rfl rfl rfl (do_move rfl ⟨rfl, rfl⟩) (by rfl) ?_
        refine ra_q (j := 1) rfl rfl rfl rfl (do_move rfl ⟨rfl, rfl⟩) (by rfl) ?_
        refine ra_case 25 rfl (fun g3 => ?_) (fun g3 => ?_)
        · have kg3 := g3
          try simp only [bs] at kg3
          refine ra_gt (j := 2) rfl rfl rfl rfl g3 rfl rfl rfl (do_load_box rfl rfl rfl ⟨rfl, rfl⟩) (by rfl) ?_
          refine ra_gt (j := 3) rfl rfl rfl rfl g3 rfl rfl rfl (do_move rfl ⟨rfl, rfl⟩) (by rfl) ?_
          refine ra_gt (j := 4) rfl rfl rfl rfl g3 rfl rfl rfl (do_ixn rfl rfl rfl (by first | omega | (simp only [ls] <;> omega)) ⟨rfl, rfl⟩) (by rfl) ?_
          refine ra_gt (j := 5) rfl rfl rfl rfl g3 rfl rfl rfl (do_load_arr rfl rfl (by first | omega | (simp only [ls] <;> omega)) rfl ⟨rfl, rfl⟩) (by rfl) ?_
          refine ra_gt (j := 6) rfl rfl rfl rfl g3 rfl rfl rfl (do_fieldaddr rfl ⟨rfl, rfl⟩) (by rfl) ?_
          refine ra_gt (j := 7) rfl rfl rfl rfl g3 rfl rfl rfl (do_load_box rfl rfl rfl ⟨rfl, rfl⟩) (by rfl) ?_
          refine ra_gt (j := 8) rfl rfl rfl rfl g3 rfl rfl rfl (do_move rfl ⟨rfl, rfl⟩) (by rfl) ?_
          refine ra_gt (j := 9) rfl rfl rfl rfl g3 rfl rfl rfl (do_ixn rfl rfl rfl (by first | omega | (simp only [ls] <;> omega)) ⟨rfl, rfl⟩) (by rfl) ?_
          refine ra_gt (j := 10) rfl rfl rfl rfl g3 rfl rfl rfl (do_fieldaddr rfl ⟨rfl, rfl⟩) (by rfl) ?_
          refine ra_gt (j := 11) rfl rfl rfl rfl g3 rfl rfl rfl (do_load_arr rfl rfl (by first | omega | (simp only [ls] <;> omega)) rfl ⟨rfl, rfl⟩) (by rfl) ?_
          refine ra_gt (j := 12) rfl rfl rfl rfl g3 rfl rfl rfl (do_bin rfl rfl rfl ⟨rfl, rfl⟩) (by rfl) ?_
          refine ra_q (j := 13) rfl rfl rfl rfl (do_pick_t rfl g3 rfl ⟨rfl, rfl⟩) (by rfl) ?_
          refine ra_q (j := 14) rfl rfl rfl rfl (do_move rfl ⟨rfl, rfl⟩) (by rfl) ?_
          refine ra_case 38 rfl (fun g4 => ?_) (fun g4 => ?_)
          · have kg4 := g4
            try simp only [bs] at kg4
            refine ra_gf (j := 15) rfl rfl rfl rfl (by rw [g4]; decide) rfl rfl rfl ?_
            refine ra_gf (j := 16) rfl rfl rfl rfl (by rw [g4]; decide) rfl rfl rfl ?_
            refine ra_gf (j := 17) rfl rfl rfl rfl (by rw [g4]; decide) rfl rfl rfl ?_
            refine ra_gu (j := 18) rfl rfl rfl rfl rfl rfl rfl ?_
            refine ra_gu (j := 19) rfl rfl rfl rfl rfl rfl rfl ?_
            refine n_done ?_
            refine rw_gu 44 17 41 true rfl rfl rfl rfl rfl rfl ?_
            refine rw_gu 45 17 41 true rfl rfl rfl rfl rfl rfl ?_
            refine rw_gu 46 17 41 true rfl rfl rfl rfl rfl rfl ?_
            refine rw_gf 47 14 38 false rfl rfl rfl rfl rfl rfl (by rw [g4]; decide) ?_
            refine rw_t 48 rfl rfl rfl (do_pick_t rfl g4 rfl ?_)
            refine rw_nil ?_
            refine ⟨rfl, ⟨_, rfl, by first | (simp; done) | (simp only [bs]; omega) | (simp [*]; done) | (simp; omega) | (constructor <;> intro h <;> simp_all <;> omega)⟩, ?_⟩
            repeat (refine ⟨⟨_, rfl, rfl⟩, ?_⟩)
            exact trivial
          · have kg4 := g4
            try simp only [bs] at kg4
            refine ra_gt (j := 15) rfl rfl rfl rfl g4 rfl rfl rfl (do_move rfl ⟨rfl, rfl⟩) (by rfl) ?_
            refine ra_gt (j := 16) rfl rfl rfl rfl g4 rfl rfl rfl (do_not rfl ⟨rfl, rfl⟩) (by rfl) ?_
            refine ra_gt (j := 17) rfl rfl rfl rfl g4 rfl rfl rfl (do_move rfl ⟨rfl, rfl⟩) (by rfl) ?_
            refine ra_case 41 rfl (fun g5 => ?_) (fun g5 => ?_)
            · have kg5 := g5
              try simp only [bs] at kg5
              refine ra_gt (j := 18) rfl rfl rfl rfl g5 rfl rfl rfl (do_load_box rfl rfl rfl ⟨rfl, rfl⟩) (by rfl) ?_
              refine ra_gt (j := 19) rfl rfl rfl rfl g5 rfl rfl rfl (do_move rfl ⟨rfl, rfl⟩) (by rfl) ?_
              refine n_done ?_
              refine rw_gt 44 17 41 true rfl rfl rfl rfl rfl rfl g5 (do_ixn rfl rfl rfl (by first | omega | (simp only [ls] <;> omega)) ?_)
              refine rw_gt 45 17 41 true rfl rfl rfl rfl rfl rfl g5 (do_load_arr rfl rfl (by first | omega | (simp only [ls] <;> omega)) rfl ?_)
              refine rw_gt 46 17 41 true rfl rfl rfl rfl rfl rfl g5 (do_bin rfl rfl rfl ?_)
              refine rw_gt 47 14 38 false rfl rfl rfl rfl rfl rfl g4 (do_pick_t rfl g5 rfl ?_)
              refine rw_t 48 rfl rfl rfl (do_pick_f rfl g4 rfl ?_)
              refine rw_nil ?_
              refine ⟨rfl, ⟨_, rfl, by first | (simp; done) | (simp only [bs]; omega) | (simp [*]; done) | (simp; omega) | (constructor <;> intro h <;> simp_all <;> omega)⟩, ?_⟩
              repeat (refine ⟨⟨_, rfl, rfl⟩, ?_⟩)
              exact trivial
            · have kg5 := g5
              try simp only [bs] at kg5
              refine ra_gf (j := 18) rfl rfl rfl rfl (by rw [g5]; decide) rfl rfl rfl ?_
              refine ra_gf (j := 19) rfl rfl rfl rfl (by rw [g5]; decide) rfl rfl rfl ?_
              refine n_done ?_
              refine rw_gf 44 17 41 true rfl rfl rfl rfl rfl rfl (by rw [g5]; decide) ?_
              refine rw_gf 45 17 41 true rfl rfl rfl rfl rfl rfl (by rw [g5]; decide) ?_
              refine rw_gf 46 17 41 true rfl rfl rfl rfl rfl rfl (by rw [g5]; decide) ?_
              refine rw_gt 47 14 38 false rfl rfl rfl rfl rfl rfl g4 (do_pick_f rfl g5 rfl ?_)
              refine rw_t 48 rfl rfl rfl (do_pick_f rfl g4 rfl ?_)
              refine rw_nil ?_
              refine ⟨rfl, ⟨_, rfl, by first | (simp; done) | (simp only [bs]; omega) | (simp [*]; done) | (simp; omega) | (constructor <;> intro h <;> simp_all <;> omega)⟩, ?_⟩
              repeat (refine ⟨⟨_, rfl, rfl⟩, ?_⟩)
              exact trivial
        · have kg3 := g3
          try simp only [bs] at kg3
          refine ra_gf (j := 2) rfl rfl rfl rfl (by rw [g3]; decide) rfl rfl rfl ?_
          refine ra_gf (j := 3) rfl rfl rfl rfl (by rw [g3]; decide) rfl rfl rfl ?_
          refine ra_gf (j := 4) rfl rfl rfl rfl (by rw [g3]; decide) rfl rfl rfl ?_
          refine ra_gf (j := 5) rfl rfl rfl rfl (by rw [g3]; decide) rfl rfl rfl ?_
          refine ra_gf (j := 6) rfl rfl rfl rfl (by rw [g3]; decide) rfl rfl rfl ?_
          refine ra_gf (j := 7) rfl rfl rfl rfl (by rw [g3]; decide) rfl rfl rfl ?_
          refine ra_gf (j := 8) rfl rfl rfl rfl (by rw [g3]; decide) rfl rfl rfl ?_
          refine ra_gf (j := 9) rfl rfl rfl rfl (by rw [g3]; decide) rfl rfl rfl ?_
          refine ra_gf (j := 10) rfl rfl rfl rfl (by rw [g3]; decide) rfl rfl rfl ?_
          refine ra_gf (j := 11) rfl rfl rfl rfl (by rw [g3]; decide) rfl rfl rfl ?_
          refine ra_gf (j := 12) rfl rfl rfl rfl (by rw [g3]; decide) rfl rfl rfl ?_
          refine ra_q (j := 13) rfl rfl rfl rfl (do_pick_f rfl g3 rfl ⟨rfl, rfl⟩) (by rfl) ?_
          refine ra_q (j := 14) rfl rfl rfl rfl (do_move rfl ⟨rfl, rfl⟩) (by rfl) ?_
          refine ra_gt (j := 15) rfl rfl rfl rfl rfl rfl rfl rfl (do_move rfl ⟨rfl, rfl⟩) (by rfl) ?_
          refine ra_gt (j := 16) rfl rfl rfl rfl rfl rfl rfl rfl (do_not rfl ⟨rfl, rfl⟩) (by rfl) ?_
          refine ra_gt (j := 17) rfl rfl rfl rfl rfl rfl rfl rfl (do_move rfl ⟨rfl, rfl⟩) (by rfl) ?_
          refine ra_case 41 rfl (fun g6 => ?_) (fun g6 => ?_)
          · have kg6 := g6
            try simp only [bs] at kg6
            refine ra_gt (j := 18) rfl rfl rfl rfl g6 rfl rfl rfl (do_load_box rfl rfl rfl ⟨rfl, rfl⟩) (by rfl) ?_
            refine ra_gt (j := 19) rfl rfl rfl rfl g6 rfl rfl rfl (do_move rfl ⟨rfl, rfl⟩) (by rfl) ?_
            refine n_done ?_
            refine rw_gt 44 17 41 true rfl rfl rfl rfl rfl rfl g6 (do_ixn rfl rfl rfl (by first | omega | (simp only [ls] <;> omega)) ?_)
            refine rw_gt 45 17 41 true rfl rfl rfl rfl rfl rfl g6 (do_load_arr rfl rfl (by first | omega | (simp only [ls] <;> omega)) rfl ?_)
            refine rw_gt 46 17 41 true rfl rfl rfl rfl rfl rfl g6 (do_bin rfl rfl rfl ?_)
            refine rw_gt 47 14 38 false rfl rfl rfl rfl rfl rfl rfl (do_pick_t rfl g6 rfl ?_)
            refine rw_t 48 rfl rfl rfl (do_pick_f rfl rfl rfl ?_)
            refine rw_nil ?_
            refine ⟨rfl, ⟨_, rfl, by first | (simp; done) | (simp only [bs]; omega) | (simp [*]; done) | (simp; omega) | (constructor <;> intro h <;> simp_all <;> omega)⟩, ?_⟩
            repeat (refine ⟨⟨_, rfl, rfl⟩, ?_⟩)
            exact trivial
          · have kg6 := g6
            try simp only [bs] at kg6
            refine ra_gf (j := 18) rfl rfl rfl rfl (by rw [g6]; decide) rfl rfl rfl ?_
            refine ra_gf (j := 19) rfl rfl rfl rfl (by rw [g6]; decide) rfl rfl rfl ?_
            refine n_done ?_
            refine rw_gf 44 17 41 true rfl rfl rfl rfl rfl rfl (by rw [g6]; decide) ?_
            refine rw_gf 45 17 41 true rfl rfl rfl rfl rfl rfl (by rw [g6]; decide) ?_
            refine rw_gf 46 17 41 true rfl rfl rfl rfl rfl rfl (by rw [g6]; decide) ?_
            refine rw_gt 47 14 38 false rfl rfl rfl rfl rfl rfl rfl (do_pick_f rfl g6 rfl ?_)
            refine rw_t 48 rfl rfl rfl (do_pick_f rfl rfl rfl ?_)
            refine rw_nil ?_
            refine ⟨rfl, ⟨_, rfl, by first | (simp; done) | (simp only [bs]; omega) | (simp [*]; done) | (simp; omega) | (constructor <;> intro h <;> simp_all <;> omega)⟩, ?_⟩
            repeat (refine ⟨⟨_, rfl, rfl⟩, ?_⟩)
            exact trivial
      intro b1 hb1
      refine w_condP hb1 rfl (fun hc4 => ?_) (fun hc4 => ?_)
      · refine w_seq ?_
        refine w_region ?_
        refine rw_u rfl rfl (n_store_box (f := 0) rfl rfl rfl (Nat.le_of_ble_eq_true rfl) rfl ?_)
        refine rw_nil ?_
        refine w_ret ?_
        repeat (with_reducible first | refine bl_n ?_ | refine bl_r ?_ | refine nx_r ?_ | refine nx_e ?_ | refine bl_e rfl ?_)
        refine round_ret rfl ?_
        refine rw_gt 30 6 25 true rfl rfl rfl rfl rfl rfl g2 (do_not rfl ?_)
        refine rw_t 31 rfl rfl rfl (do_pick_t rfl g2 rfl ?_)
        refine rw_nil ?_
        refine w_cond rfl (fun hc5 => ?_) (fun hc5 => ?_)
        rotate_left
        · exfalso; first | (cases hc5; done) | exact (hc5 trivial) | (try simp only [bs] at hc5; first | omega | (simp_all; done) | (simp_all; omega))
        refine w_ret ?_
        refine ret_iter (.inl rfl) rfl (Y := [SO.arcs false n.arcs, SO.ints false .i64 f, SO.bools false sd, .box [.val (.int .i64 n.N), .val (.int .i64 n.S), .val (.int .i64 n.T), .slc 0 0 n.arcs.length none], .box [.slc 1 0 f.length none], .box [.val (.bool false)], .box [.val (.int .i64 n.N), .val (.int .i64 n.S), .val (.int .i64 n.T), .slc 0 0 n.arcs.length none], .box [.slc 2 0 sd.length none], .gen [.ptr 3 0 0, .ptr 4 0 0, .ptr 5 0 0] (q1 .done (some .ret)), .box [.val (.int .i64 ((n.arcs.getD i Arc.none).frm)), .val (.int .i64 ((n.arcs.getD i Arc.none).to)), .val (.int .i64 ((n.arcs.getD i Arc.none).cap))]]) [0, 1, 2, 3, 4, 5, 6, 7, 8, 9] ⟨shR rfl, shR rfl, shR rfl, shR rfl, shR rfl, shR rfl, shR rfl, shR rfl, shR rfl, shR rfl, trivial⟩ rfl (pre_ok rfl) ?_
        refine iter_ret rfl ?_
        exact ret_eq (.inl rfl) (.cons (res_one rfl rfl rfl) .nil) [0, 1, 2] (Eq.symm (bool_congr ((decide_eq_false (fun q => tight_no g2 hc4 (q.2 i (by omega))))))) ⟨shR rfl, shR rfl, shR rfl, trivial⟩ rfl (pre_ok rfl)
      refine w_skip ?_
      repeat (with_reducible first | refine bl_n ?_ | refine bl_r ?_ | refine nx_r ?_ | refine nx_e ?_ | refine bl_e rfl ?_)
      refine round_normal rfl ?_
      refine rw_gt 30 6 25 true rfl rfl rfl rfl rfl rfl g2 (do_not rfl ?_)
      refine rw_t 31 rfl rfl rfl (do_pick_t rfl g2 rfl ?_)
      refine rw_nil ?_
      refine w_cond rfl (fun hc6 => ?_) (fun hc6 => ?_)
      · exfalso; first | (cases hc6; done) | exact (hc6 trivial) | (try simp only [bs] at hc6; first | omega | (simp_all; done) | (simp_all; omega))
      refine w_skip ?_
      refine w_region ?_
      refine rw_t 32 rfl rfl rfl (do_add rfl rfl (by omega) ?_)
      refine rw_t 10 rfl rfl rfl (do_move rfl ?_)
      refine rw_nil ?_
      refine ⟨i + 1, [0, 1, 2, 3, 4, 5, 6, 7, 8], by dsimp only; omega, ⟨by omega, fun k hk => by rcases Nat.lt_or_ge k i with q | q; exact gk k q; have : k = i := (by omega); subst this; first | exact tight_ok g2 hc4 | exact tight_eq (fun z => absurd (show false = true from g2.symm.trans z) (by decide))⟩, ⟨shR rfl, shR rfl, shR rfl, shR rfl, shR rfl, shR rfl, shR rfl, shR rfl, shR rfl, trivial⟩, rfl, pre_ok rfl, ⟨⟨_, rfl, rfl⟩, ⟨_, rfl, rfl⟩, ⟨_, rfl, rfl⟩, ⟨_, rfl, rfl⟩, ⟨_, rfl, rfl⟩, trivial⟩⟩
    · have kg2 := g2
      try simp only [bs] at kg2
      refine rw_gf 26 6 25 true rfl rfl rfl rfl rfl rfl (by rw [g2]; decide) ?_
      refine rw_gf 27 6 25 true rfl rfl rfl rfl rfl rfl (by rw [g2]; decide) ?_
      refine rw_gf 28 6 25 true rfl rfl rfl rfl rfl rfl (by rw [g2]; decide) ?_
      refine rw_gf 29 6 25 true rfl rfl rfl rfl rfl rfl (by rw [g2]; decide) ?_
      refine rw_gf 30 6 25 true rfl rfl rfl rfl rfl rfl (by rw [g2]; decide) ?_
      refine rw_t 31 rfl rfl rfl (do_pick_f rfl g2 rfl ?_)
      refine rw_nil ?_
      refine w_cond rfl (fun hc7 => ?_) (fun hc7 => ?_)
      · exfalso; first | (cases hc7; done) | exact (hc7 trivial) | (try simp only [bs] at hc7; first | omega | (simp_all; done) | (simp_all; omega))
      refine w_skip ?_
      refine w_region ?_
      refine rw_t 32 rfl rfl rfl (do_add rfl rfl (by omega) ?_)
      refine rw_t 10 rfl rfl rfl (do_move rfl ?_)
      refine rw_nil ?_
      refine ⟨i + 1, [0, 1, 2, 3, 4, 5, 6, 7, 8], by dsimp only; omega, ⟨by omega, fun k hk => by rcases Nat.lt_or_ge k i with q | q; exact gk k q; have : k = i := (by omega); subst this; first | exact tight_ok g2 hc4 | exact tight_eq (fun z => absurd (show false = true from g2.symm.trans z) (by decide))⟩, ⟨shR rfl, shR rfl, shR rfl, shR rfl, shR rfl, shR rfl, shR rfl, shR rfl, shR rfl, trivial⟩, rfl, pre_ok rfl, ⟨⟨_, rfl, rfl⟩, ⟨_, rfl, rfl⟩, ⟨_, rfl, rfl⟩, ⟨_, rfl, rfl⟩, ⟨_, rfl, rfl⟩, trivial⟩⟩
end Go.Proofs

set_option linter.unusedVariables false
set_option linter.unusedSimpArgs false
namespace Go.Proofs
open Go Go.Sx Go.RowKit
theorem arc_in {n : Net} (hsm : Small n) : ∀ k : Nat, k < (makeC n).Arc.length → 0 ≤ (makeC n).Arc.getD k 0 ∧ (makeC n).Arc.getD k 0 < ((n.arcs.length : Nat) : Int) := fun a ha => by
  have hl : (makeC n).Arc.length = (rows n).length := by simp [makeC]
  rw [hl] at ha
  show 0 ≤ ((rows n).map Row.arc).getD a 0 ∧ ((rows n).map Row.arc).getD a 0 < ((n.arcs.length : Nat) : Int)
  rw [getD_arc]
  obtain ⟨k, hk, hne, hc⟩ := row_cases hsm.toNetOK ha
  rcases hc with e | e <;> rw [e] <;> dsimp only <;> omega
/-- The flow that a state's rest says. -/
abbrev flowC (n : Net) (r : Pre) : List Int := flowL (makeC n) r.Res ((n.arcs.length : Nat) : Int) (makeC n).Head.length
theorem arc_in' {n : Net} (hsm : Small n) : ∀ k : Nat, k < (makeC n).Head.length → 0 ≤ (makeC n).Arc.getD k 0 ∧ (makeC n).Arc.getD k 0 < ((n.arcs.length : Nat) : Int) := fun k hk => arc_in hsm k (by have := (make_q hsm).toCsrG.arc; omega)
theorem flow_at {n : Net} (hsm : Small n) (r : Pre) {b : Nat} (hb : b < (makeC n).Head.length) (hB : (makeC n).Back.getD b false = true) : (flowC n r).getD ((makeC n).Arc.getD b 0).toNat 0 = r.Res.getD b 0 := by
  have := flow_back (make_q hsm).toCsrP r.Res (arc_in' hsm) hb hB _ (Nat.le_refl _)
  rw [if_pos hb] at this
  exact this
theorem flow_r {n : Net} {r : Pre} (hin : r.Res.length = (makeC n).Head.length) (hp : pairsP (makeC n) r.Res) : flowR (makeC n) r.Res ((n.arcs.length : Nat) : Int) = (flowC n r, 0) := by
  unfold flowR; rw [if_pos hin, if_pos hp]
theorem res_same {n : Net} (hsm : Small n) {r : Pre} (hin : r.Res.length = (makeC n).Head.length) (hp : pairsP (makeC n) r.Res) : resOf (makeC n) (flowC n r) (makeC n).Head.length = r.Res := by
  have hq := make_q hsm
  apply List.ext_getElem
  · simp [resOf, hin]
  · intro a h1 h2
    have ha : a < (makeC n).Head.length := by omega
    simp only [resOf, List.getElem_map, List.getElem_range]
    have e0 : r.Res[a] = r.Res.getD a 0 := by simp [List.getD, h2]
    rw [e0]
    unfold resAt flowAt
    have hr := hq.rv a ha
    by_cases hB : (makeC n).Back.getD a false = true
    · rw [if_pos hB, flow_at hsm r ha hB]
    · rw [if_neg hB, ← hq.arcrev a ha, flow_at hsm r (by omega) (by rw [hq.rbk a ha]; simpa using hB)]
      have := hp a ha
      omega
/-- A row of each arc that is no ring. -/
theorem back_row {n : Net} (hsm : Small n) {k : Nat} (hk : k < n.arcs.length) (hne : (n.arcs.getD k Arc.none).frm ≠ (n.arcs.getD k Arc.none).to) : ∃ b, b < (makeC n).Head.length ∧ (makeC n).Back.getD b false = true ∧ (makeC n).Arc.getD b 0 = k ∧ (makeC n).Head.getD b 0 = (n.arcs.getD k Arc.none).frm ∧ tailOf (makeC n) b = (n.arcs.getD k Arc.none).to ∧ mostOf (makeC n) b = (n.arcs.getD k Arc.none).cap := by
  have hq := make_q hsm
  have hm : (⟨(n.arcs.getD k Arc.none).frm, 0, k, true⟩ : Row) ∈ rows n := (mem_rows hsm.toNetOK).2 ⟨k, hk, hne, .inr rfl⟩
  obtain ⟨b, hb, e⟩ := List.mem_iff_getElem.1 hm
  have e' : (rows n).getD b Row.none = ⟨(n.arcs.getD k Arc.none).frm, 0, k, true⟩ := by simp [List.getD, hb, e]
  have hbh : b < (makeC n).Head.length := by rw [make_head]; exact hb
  obtain ⟨j, h1, h2, h3, h4, h5⟩ := rev_spec hsm.toNetOK hb
  rw [e'] at h4 h5
  obtain ⟨k', hk', hne', hc'⟩ := row_cases hsm.toNetOK h1
  have ej : (rows n).getD j Row.none = ⟨(n.arcs.getD k Arc.none).to, (n.arcs.getD k Arc.none).cap, k, false⟩ := by
    rcases hc' with e2 | e2
    · rw [e2] at h4; dsimp only at h4
      have : k' = k := by omega
      subst this; exact e2
    · rw [e2] at h5; simp at h5
  have eB : (makeC n).Back.getD b false = true := by show ((rows n).map Row.back).getD b false = true; rw [getD_back, e']
  have eA : (makeC n).Arc.getD b 0 = k := by show ((rows n).map Row.arc).getD b 0 = k; rw [getD_arc, e']
  have eH : (makeC n).Head.getD b 0 = (n.arcs.getD k Arc.none).frm := by show ((rows n).map Row.hd).getD b 0 = _; rw [getD_hd, e']
  have eH2 : (makeC n).Head.getD j 0 = (n.arcs.getD k Arc.none).to := by show ((rows n).map Row.hd).getD j 0 = _; rw [getD_hd, ej]
  have eC : (makeC n).Cap.getD b 0 = 0 := by show ((rows n).map Row.cap).getD b 0 = _; rw [getD_cap, e']
  have eC2 : (makeC n).Cap.getD j 0 = (n.arcs.getD k Arc.none).cap := by show ((rows n).map Row.cap).getD j 0 = _; rw [getD_cap, ej]
  refine ⟨b, hbh, eB, eA, eH, ?_, ?_⟩
  · rw [hq.rtl b hbh, h3, Int.toNat_natCast, eH2]
  · unfold mostOf; rw [h3, Int.toNat_natCast, eC, eC2]; omega
theorem ex_arcX {n : Net} (h : NetOK n) (f : List Int) : ∀ k, k ≤ n.arcs.length → ∀ v : Nat, v < n.N.toNat → (exL n f k).getD v 0 = arcX n f (v : Int) k
  | 0, _, v, hv => by simp [exL, arcX, List.getD, hv]
  | k + 1, hk, v, hv => by
    have ih := ex_arcX h f k (by omega) v hv
    have he := h.ends _ (getD_mem Arc.none (show k < n.arcs.length by omega))
    have hl := exL_len n f k
    simp only [exL, addAt, subAt, arcX]
    have e := two_set (l := exL n f k) (x := (n.arcs.getD k Arc.none).frm.toNat) (y := (n.arcs.getD k Arc.none).to.toNat) (by omega) (by omega) (-(f.getD k 0)) (f.getD k 0) v
    rw [show ∀ A d : Int, A - d = A + -d from fun A d => by omega, e, ih]
    split <;> split <;> split <;> omega
end Go.Proofs

set_option linter.unusedVariables false
set_option linter.unusedSimpArgs false
namespace Go.Proofs
open Go Go.Sx Go.RowKit
/-- A vertex is as high as its place in the row of those met, at most. -/
def lowH (p : Pre) (wl : List Int) : Prop := ∀ i : Nat, i < wl.length → p.H.getD (wl.getD i 0).toNat 0 ≤ i
theorem meet_low {p : Pre} {s : List Bool × List Int} {v : Int} (h : lowH p s.2) (hv : p.H.getD v.toNat 0 ≤ s.2.length) : lowH p (meetS s v).2 := by
  unfold meetS
  split
  · exact h
  · intro i hi
    dsimp only at hi ⊢
    rw [List.length_append, List.length_singleton] at hi
    rcases Nat.lt_or_ge i s.2.length with q | q
    · have := h i q
      simp only [List.getD] at this ⊢
      rw [List.getElem?_append_left q]; exact this
    · have e : i = s.2.length := by omega
      subst e
      simp only [List.getD]
      rw [List.getElem?_append_right (Nat.le_refl _), Nat.sub_self]
      exact hv
/-- An arc that is left against the way goes up by one at most. -/
theorem low_step {c : Csr} (h : CsrG c) {p : Pre} (hp : refR c p) {u : Int} (hu : 0 ≤ u ∧ u < c.N) {j : Nat} (hj : j < manyOf c u) (hr : p.Res.getD (c.Rev.getD (c.First.getD u.toNat 0 + j).toNat 0).toNat 0 > 0) :
    p.H.getD (c.Head.getD (c.First.getD u.toNat 0 + j).toNat 0).toNat 0 ≤ p.H.getD u.toNat 0 + 1 := by
  obtain ⟨m1, m2, m3⟩ := many_arc h.toCsrT hu hj
  have hr2 := h.rv (c.First.getD u.toNat 0 + j).toNat (by omega)
  have hs := ((refR_iff h p).1 hp).2.2 (c.Rev.getD (c.First.getD u.toNat 0 + j).toNat 0).toNat (by omega)
  have ht := h.rtl (c.Rev.getD (c.First.getD u.toNat 0 + j).toNat 0).toNat (by omega)
  have ht2 := h.rtl (c.First.getD u.toNat 0 + j).toNat (by omega)
  have hrr := h.rrv (c.First.getD u.toNat 0 + j).toNat (by omega)
  rw [hrr, Int.toNat_natCast] at ht
  rw [show (((c.First.getD u.toNat 0 + (j : Int)).toNat : Nat) : Int) = c.First.getD u.toNat 0 + j by omega, m3] at ht2
  unfold steepA at hs
  rw [ht, Int.toNat_natCast, ← ht2] at hs
  omega
theorem arc_low {c : Csr} (h : CsrG c) {p : Pre} (hp : refR c p) {s : List Bool × List Int} (hs : BfsOK c s) {i : Nat} (hi : i < s.2.length) (hl : lowH p s.2) : ∀ j, j ≤ manyOf c (s.2.getD i 0) → lowH p (arcS c p.Res (s.2.getD i 0) s j).2
  | 0, _ => hl
  | j + 1, hj => by
    have ih := arc_low h hp hs hi hl j (by omega)
    have hu := hs.inr _ (getD_mem 0 hi)
    simp only [arcS]
    split
    · rename_i hr
      refine meet_low ih ?_
      have h1 := low_step h hp hu (show j < manyOf c (s.2.getD i 0) by omega) hr
      have h2 := hl i hi
      have h3 := (arc_row h p.Res hu hs (show j ≤ manyOf c (s.2.getD i 0) by omega) hi).2
      obtain ⟨-, r, e⟩ := arc_ok h p.Res hu hs j (by omega)
      have h4 : s.2.length ≤ (arcS c p.Res (s.2.getD i 0) s j).2.length := by rw [e, List.length_append]; omega
      omega
    · exact ih
theorem bfs_low {c : Csr} (h : CsrG c) {p : Pre} (hp : refR c p) : ∀ i, lowH p (bfsS c p.Res c.T i).2
  | 0 => by
    intro i hi
    simp only [bfsS, List.length_singleton] at hi ⊢
    have e : i = 0 := by omega
    subst e
    have := hp.2.2
    simp only [List.getD_cons_zero]; omega
  | i + 1 => by
    have ih := bfs_low h hp i
    simp only [bfsS]
    split
    · rename_i hi
      exact arc_low h hp (bfs_ok h p.Res h.t i) hi ih _ (Nat.le_refl _)
    · exact ih
theorem met_iff {c : Csr} (h : CsrG c) (p : Pre) {v : Nat} (hv : v < c.N.toNat) : (metL c p.Res c.T).getD v false = true ↔ (v : Int) ∈ (bfsS c p.Res c.T c.N.toNat).2 := (bfs_ok h p.Res h.t _).both v hv
/-- S is not met. -/
theorem s_apart {c : Csr} (h : CsrG c) {p : Pre} (hp : refR c p) : (metL c p.Res c.T).getD c.S.toNat false = false := by
  have hS := h.s
  cases hm : (metL c p.Res c.T).getD c.S.toNat false with
  | false => rfl
  | true =>
    have hb := bfs_ok h p.Res h.t c.N.toNat
    obtain ⟨i, hi, e⟩ := List.mem_iff_getElem.1 ((met_iff h p (by omega)).1 hm)
    have hl := bfs_low h hp c.N.toNat i hi
    have e' : (bfsS c p.Res c.T c.N.toNat).2.getD i 0 = ((c.S.toNat : Nat) : Int) := by simp [List.getD, hi, e]
    rw [e', Int.toNat_natCast] at hl
    have hsm := hb.small (by omega)
    have := hp.2.1
    omega
end Go.Proofs

set_option linter.unusedVariables false
set_option linter.unusedSimpArgs false
namespace Go.Proofs
open Go Go.Sx Go.RowKit
def metOf (c : Csr) (res : List Int) (u : Int) (wl : List Int) (m : Nat) : Prop := ∀ j : Nat, j < m → res.getD (c.Rev.getD (c.First.getD u.toNat 0 + j).toNat 0).toNat 0 > 0 → c.Head.getD (c.First.getD u.toNat 0 + j).toNat 0 ∈ wl
theorem arc_meets {c : Csr} (h : CsrG c) (res : List Int) {u : Int} (hu : 0 ≤ u ∧ u < c.N) {s : List Bool × List Int} (hs : BfsOK c s) : ∀ j, j ≤ manyOf c u → metOf c res u (arcS c res u s j).2 j
  | 0, _ => fun j hj => by omega
  | j + 1, hj => by
    have ih := arc_meets h res hu hs j (by omega)
    obtain ⟨k1, -⟩ := arc_ok h res hu hs j (by omega)
    obtain ⟨m1, m2, m3⟩ := many_arc h.toCsrT hu (show j < manyOf c u by omega)
    intro i hi hr
    simp only [arcS]
    rcases Nat.lt_or_ge i j with q | q
    · have := ih i q hr
      split
      · obtain ⟨-, ⟨r, e⟩, -⟩ := meet_ok k1 (h.hd (c.First.getD u.toNat 0 + j).toNat (by omega))
        rw [e]; exact List.mem_append_left _ this
      · exact this
    · have e : i = j := by omega
      subst e
      rw [if_pos hr]
      exact (meet_ok k1 (h.hd (c.First.getD u.toNat 0 + i).toNat (by omega))).2.2
theorem bfs_meets {c : Csr} (h : CsrG c) (res : List Int) {t : Int} (ht : 0 ≤ t ∧ t < c.N) : ∀ i p : Nat, p < i → p < (bfsS c res t i).2.length → metOf c res ((bfsS c res t i).2.getD p 0) (bfsS c res t i).2 (manyOf c ((bfsS c res t i).2.getD p 0))
  | 0, p, hp, _ => by omega
  | i + 1, p, hp, hl => by
    have hb := bfs_ok h res ht i
    by_cases hi : i < (bfsS c res t i).2.length
    · rw [bfs_next hi] at hl ⊢
      have hu := hb.inr _ (getD_mem 0 hi)
      rcases Nat.lt_or_ge p i with q | q
      · have ih := bfs_meets h res ht i p q (by omega)
        have e := (arc_row h res hu hb (Nat.le_refl _) (show p < (bfsS c res t i).2.length by omega)).1
        rw [e]
        intro j hj hr
        obtain ⟨-, r, e2⟩ := arc_ok h res hu hb _ (Nat.le_refl (manyOf c ((bfsS c res t i).2.getD i 0)))
        rw [e2]
        exact List.mem_append_left _ (ih j hj hr)
      · have e0 : p = i := by omega
        subst e0
        have e := (arc_row h res hu hb (Nat.le_refl _) hi).1
        rw [e]
        exact arc_meets h res hu hb _ (Nat.le_refl _)
    · have e : bfsS c res t (i + 1) = bfsS c res t i := by simp only [bfsS]; rw [if_neg hi]
      rw [e] at hl ⊢
      exact bfs_meets h res ht i p (by omega) hl
/-- From whom a met vertex is reached by one left arc, is met. -/
theorem met_closed {c : Csr} (h : CsrG c) (p : Pre) {b : Nat} (hb : b < c.Head.length) (hr : p.Res.getD b 0 > 0) (hm : (metL c p.Res c.T).getD (c.Head.getD b 0).toNat false = true) : (metL c p.Res c.T).getD (tailOf c b).toNat false = true := by
  have hn := h.n
  have hhd := h.hd b hb
  have hrv := h.rv b hb
  have hbo := bfs_ok h p.Res h.t c.N.toNat
  obtain ⟨i, hi, e⟩ := List.mem_iff_getElem.1 ((met_iff h p (by omega)).1 hm)
  have e' : (bfsS c p.Res c.T c.N.toNat).2.getD i 0 = c.Head.getD b 0 := by rw [← show (((c.Head.getD b 0).toNat : Nat) : Int) = c.Head.getD b 0 by omega, ← e]; simp [List.getD, hi]
  have hsm := hbo.small (by omega)
  have hc := bfs_meets h p.Res h.t c.N.toNat i (by omega) hi
  rw [e'] at hc
  obtain ⟨v, hv, ht1, ht2, -⟩ := h.tail_at (a := c.Rev.getD b 0) (by omega) (by omega)
  have hrt := h.rtl (c.Rev.getD b 0).toNat (by omega)
  rw [h.rrv b hb, Int.toNat_natCast, show (((c.Rev.getD b 0).toNat : Nat) : Int) = c.Rev.getD b 0 by omega, ht2] at hrt
  have htb := h.rtl b hb
  unfold isTail at ht1
  have hmn : manyOf c (c.Head.getD b 0) = (c.First.getD (v + 1) 0 - c.First.getD v 0).toNat := by
    unfold manyOf; rw [← hrt]; congr 2
  have hev : (c.Head.getD b 0).toNat = v := by omega
  have := hc (c.Rev.getD b 0 - c.First.getD v 0).toNat (by rw [hmn]; omega)
  rw [hev, show c.First.getD v 0 + (((c.Rev.getD b 0 - c.First.getD v 0).toNat : Nat) : Int) = c.Rev.getD b 0 by omega, h.rrv b hb, Int.toNat_natCast, ← htb] at this
  have hmem := this hr
  have htr := hbo.inr _ hmem
  rw [met_iff h p (by omega), show (((tailOf c b).toNat : Nat) : Int) = tailOf c b by omega]
  exact hmem
theorem tt_met {c : Csr} (h : CsrG c) (p : Pre) : (metL c p.Res c.T).getD c.T.toNat false = true := by
  have hT := h.t
  rw [met_iff h p (by omega), show ((c.T.toNat : Nat) : Int) = c.T by omega]
  have : ∀ i, c.T ∈ (bfsS c p.Res c.T i).2 := by
    intro i
    induction i with
    | zero => simp [bfsS]
    | succ i ih =>
      simp only [bfsS]
      split
      · rename_i hi
        obtain ⟨-, r, e⟩ := arc_ok h p.Res ((bfs_ok h p.Res h.t i).inr _ (getD_mem 0 hi)) (bfs_ok h p.Res h.t i) _ (Nat.le_refl _)
        rw [e]; exact List.mem_append_left _ ih
      · exact ih
  exact this _
end Go.Proofs

set_option linter.unusedVariables false
set_option linter.unusedSimpArgs false
namespace Go.Proofs
open Go Go.Sx Go.RowKit
theorem selK_has {q : Int → Bool} {x : Int} : ∀ {k : Nat}, 0 ≤ x → x < k → q x = true → x ∈ selK q k
  | 0, h0, h1, _ => by omega
  | k + 1, h0, h1, hq => by
    by_cases hk : x = (k : Int)
    · subst hk; rw [selK_one hq]; simp
    · have := selK_has (k := k) h0 (by omega) hq
      by_cases hq' : q k = true
      · rw [selK_one hq']; exact List.mem_append_left _ this
      · rw [selK_none hq']; exact this
theorem mem_active {c : Csr} {p : Pre} {x : Int} : x ∈ activeL c p ↔ (0 ≤ x ∧ x < c.N.toNat) ∧ activeP c p x :=
  ⟨fun h => ⟨(selK_mem h).1, of_decide_eq_true (selK_mem h).2⟩, fun h => selK_has h.1.1 h.1.2 (decide_eq_true h.2)⟩
def tailIn (c : Csr) (l : List Int) (u : Nat) : Prop := ∃ a ∈ l, tailOf c a = (u : Int)
instance (c : Csr) (l : List Int) (u : Nat) : Decidable (tailIn c l u) := by unfold tailIn; infer_instance
/-- What is noted of each vertex: 1 where an arc may be pushed, 2 where it may be lifted, 0 again where it is active. -/
def mvA (c : Csr) (p : Pre) (i : Nat) : List Int := tab c.N.toNat (fun u => if tailIn c ((pushL c p).take i) u then 1 else 0)
def mvB (c : Csr) (p : Pre) (i : Nat) : List Int := tab c.N.toNat (fun u => if (u : Int) ∈ (stuckL c p).take i then 2 else if tailIn c (pushL c p) u then 1 else 0)
def mvC (c : Csr) (p : Pre) (i : Nat) : List Int := tab c.N.toNat (fun u => if (u : Int) ∈ (activeL c p).take i then 0 else if (u : Int) ∈ stuckL c p then 2 else if tailIn c (pushL c p) u then 1 else 0)
end Go.Proofs

set_option linter.unusedVariables false
set_option linter.unusedSimpArgs false
namespace Go.Proofs
open Go Go.Sx Go.RowKit
theorem flow_none {c : Csr} {res : List Int} {m : Int} {x : Nat} : ∀ k, (∀ b, b < k → c.Back.getD b false = true → (c.Arc.getD b 0).toNat ≠ x) → (flowL c res m k).getD x 0 = 0
  | 0, _ => by simp only [flowL, List.getD, List.getElem?_replicate]; split <;> rfl
  | k + 1, h => by
    have ih := flow_none (c := c) (res := res) (m := m) (x := x) k (fun b hb => h b (by omega))
    simp only [flowL]
    split
    · rename_i hB
      have := h k (by omega) hB
      rw [lget_ne this]; exact ih
    · exact ih
theorem flow_ring {n : Net} (hsm : Small n) (r : Pre) {k : Nat} (hk : k < n.arcs.length) (he : (n.arcs.getD k Arc.none).frm = (n.arcs.getD k Arc.none).to) : (flowC n r).getD k 0 = 0 := by
  refine flow_none _ fun b hb hB => ?_
  rw [make_head] at hb
  show (((rows n).map Row.arc).getD b 0).toNat ≠ k
  rw [getD_arc]
  obtain ⟨k', hk', hne, hc⟩ := row_cases hsm.toNetOK hb
  have : k' ≠ k := fun e => by subst e; exact hne he
  rcases hc with e | e <;> rw [e] <;> dsimp only <;> omega
theorem flow_arc {n : Net} (hsm : Small n) (r : Pre) {k : Nat} (hk : k < n.arcs.length) (hne : (n.arcs.getD k Arc.none).frm ≠ (n.arcs.getD k Arc.none).to) : ∃ b, b < (makeC n).Head.length ∧ (flowC n r).getD k 0 = r.Res.getD b 0 ∧ (makeC n).Head.getD b 0 = (n.arcs.getD k Arc.none).frm ∧ tailOf (makeC n) b = (n.arcs.getD k Arc.none).to ∧ mostOf (makeC n) b = (n.arcs.getD k Arc.none).cap := by
  obtain ⟨b, b1, b2, b3, b4, b5, b6⟩ := back_row hsm hk hne
  refine ⟨b, b1, ?_, b4, b5, b6⟩
  have := flow_at hsm r b1 b2
  rw [b3, Int.toNat_natCast] at this
  exact this
theorem flow_within {n : Net} (hsm : Small n) {r : Pre} (hp : pairsP (makeC n) r.Res) : withinP n (flowC n r) := by
  refine ⟨by rw [flowL_len]; omega, fun k hk => ?_⟩
  have ha := hsm.toNetOK.arc hk
  by_cases he : (n.arcs.getD k Arc.none).frm = (n.arcs.getD k Arc.none).to
  · rw [flow_ring hsm r hk he]; omega
  · obtain ⟨b, b1, b2, b3, b4, b5⟩ := flow_arc hsm r hk he
    have := hp b b1
    rw [b2]; omega
theorem flow_ex {n : Net} (hsm : Small n) {r : Pre} (hr : refR (makeC n) r) {v : Nat} (hv : v < n.N.toNat) : (exL n (flowC n r) n.arcs.length).getD v 0 = r.Ex.getD v 0 := by
  have hg := (make_q hsm).toCsrG
  have hin := refR_in hg hr
  have hx := (((refR_iff hg r).1 hr).1.2.2.2 v hv).1
  rw [ex_arcX hsm.toNetOK _ _ (Nat.le_refl _) v hv, ← ex_arcs hsm, res_same hsm hin.res hr.1.1.1.2, hx]
theorem side_at {n : Net} {res : List Int} {t : Int} {v : Nat} (hv : v < n.N.toNat) : (sideL (makeC n) res t).getD v false = !(metL (makeC n) res t).getD v false := by
  unfold sideL
  exact tab_get _ _ hv
theorem side_cut {n : Net} (hsm : Small n) {r : Pre} (hr : refR (makeC n) r) : cutP n (sideL (makeC n) r.Res n.T) := by
  have hg := (make_q hsm).toCsrG
  have hS := hsm.toNetOK.s
  have hT := hsm.toNetOK.t
  refine ⟨tab_len _ _, ?_, ?_⟩
  · rw [side_at (by omega)]
    have : (metL (makeC n) r.Res n.T).getD n.S.toNat false = false := s_apart hg hr
    rw [this]; rfl
  · rw [side_at (by omega)]
    have : (metL (makeC n) r.Res n.T).getD n.T.toNat false = true := tt_met hg r
    rw [this]; rfl
/-- What goes across the side is full; what comes back is empty. -/
theorem side_tight {n : Net} (hsm : Small n) {r : Pre} (hr : refR (makeC n) r) {k : Nat} (hk : k < n.arcs.length) :
    (outK n (sideL (makeC n) r.Res n.T) k = true → innK n (sideL (makeC n) r.Res n.T) k = false → (flowC n r).getD k 0 = (n.arcs.getD k Arc.none).cap) ∧ (outK n (sideL (makeC n) r.Res n.T) k = false → innK n (sideL (makeC n) r.Res n.T) k = true → (flowC n r).getD k 0 = 0) := by
  have hg := (make_q hsm).toCsrG
  have hT := hsm.toNetOK.t
  have hlo := hsm.toNetOK.lo
  have he := hsm.toNetOK.ends _ (getD_mem Arc.none hk)
  unfold outK innK
  rw [side_at (by omega), side_at (by omega)]
  by_cases hq : (n.arcs.getD k Arc.none).frm = (n.arcs.getD k Arc.none).to
  · rw [hq]
    exact ⟨fun a b => by rw [a] at b; exact absurd b (by decide), fun a b => by rw [a] at b; exact absurd b (by decide)⟩
  · obtain ⟨b, b1, b2, b3, b4, b5⟩ := flow_arc hsm r hk hq
    have hpr := hr.1.1.1.2 b b1
    have hrv := hg.rv b b1
    rw [b2]
    simp only [Bool.not_eq_true', Bool.not_eq_false']
    constructor
    · intro h1 h2
      have hnr : ¬ r.Res.getD ((makeC n).Rev.getD b 0).toNat 0 > 0 := fun q => by
        have hc := met_closed hg r (b := ((makeC n).Rev.getD b 0).toNat) (by omega) q
        have t1 := hg.rtl ((makeC n).Rev.getD b 0).toNat (by omega)
        rw [hg.rrv b b1, Int.toNat_natCast, b3] at t1
        rw [t1, ← hg.rtl b b1, b4] at hc
        have := hc h2
        rw [show (makeC n).T = n.T from rfl, h1] at this
        exact absurd this (by decide)
      omega
    · intro h1 h2
      have hnr : ¬ r.Res.getD b 0 > 0 := fun q => by
        have hc := met_closed hg r b1 q
        rw [b3, b4] at hc
        have := hc h1
        rw [show (makeC n).T = n.T from rfl, h2] at this
        exact absurd this (by decide)
      omega
theorem side_capK {n : Net} (hsm : Small n) {r : Pre} (hr : refR (makeC n) r) : ∀ k, k ≤ n.arcs.length → sumN (fun v => if (sideL (makeC n) r.Res n.T).getD v false = false then (exL n (flowC n r) k).getD v 0 else 0) n.N.toNat = capK n (sideL (makeC n) r.Res n.T) k
  | 0, _ => by
    rw [sumN_zero]; rfl
    intro v hv
    simp [exL, List.getD, hv]
  | k + 1, hk => by
    have ih := side_capK hsm hr k (by omega)
    have he := hsm.toNetOK.ends _ (getD_mem Arc.none (show k < n.arcs.length by omega))
    have hlo := hsm.toNetOK.lo
    have hl := exL_len n (flowC n r) k
    have ht := side_tight hsm hr (show k < n.arcs.length by omega)
    generalize hsd : sideL (makeC n) r.Res n.T = sd at *
    generalize hff : flowC n r = f at *
    have e1 : sumN (fun v => if sd.getD v false = false then (exL n f (k + 1)).getD v 0 else 0) n.N.toNat = sumN (fun v => (if sd.getD v false = false then (exL n f k).getD v 0 else 0) + ((if v = (n.arcs.getD k Arc.none).frm.toNat then (if sd.getD (n.arcs.getD k Arc.none).frm.toNat false = false then -(f.getD k 0) else 0) else 0) + (if v = (n.arcs.getD k Arc.none).to.toNat then (if sd.getD (n.arcs.getD k Arc.none).to.toNat false = false then f.getD k 0 else 0) else 0))) n.N.toNat := by
      refine sumN_congr fun v hv => ?_
      simp only [exL, addAt, subAt]
      have e := two_set (l := exL n f k) (x := (n.arcs.getD k Arc.none).frm.toNat) (y := (n.arcs.getD k Arc.none).to.toNat) (by omega) (by omega) (-(f.getD k 0)) (f.getD k 0) v
      rw [show ∀ A d : Int, A - d = A + -d from fun A d => by omega, e]
      by_cases h1 : v = (n.arcs.getD k Arc.none).frm.toNat
      · by_cases h2 : v = (n.arcs.getD k Arc.none).to.toNat
        · rw [if_pos h1, if_pos h2, if_pos h1.symm, if_pos h2.symm, ← h1, ← h2]; split <;> omega
        · rw [if_pos h1, if_neg h2, if_pos h1.symm, if_neg (Ne.symm h2), ← h1]; split <;> omega
      · by_cases h2 : v = (n.arcs.getD k Arc.none).to.toNat
        · rw [if_neg h1, if_pos h2, if_neg (Ne.symm h1), if_pos h2.symm, ← h2]; split <;> omega
        · rw [if_neg h1, if_neg h2, if_neg (Ne.symm h1), if_neg (Ne.symm h2)]; split <;> omega
    rw [e1, sumN_add, sumN_add, sumN_at _ _ (by omega), sumN_at _ _ (by omega), ih]
    simp only [capK]
    unfold outK innK at *
    generalize f.getD k 0 = x at ht ⊢
    generalize (n.arcs.getD k Arc.none).cap = y at ht ⊢
    cases ho : sd.getD (n.arcs.getD k Arc.none).frm.toNat false <;> cases hi : sd.getD (n.arcs.getD k Arc.none).to.toNat false
    · simp; omega
    · have := ht.2 ho hi; simp; omega
    · have := ht.1 ho hi; simp; omega
    · simp
theorem ends_law {n : Net} (hsm : Small n) {r : Pre} (hr : refR (makeC n) r) (ha : (activeL (makeC n) r).length = 0) {f : List Int} (hf : f = (flowR (makeC n) r.Res ((n.arcs.length : Nat) : Int)).1) {sd : List Bool} (hsd : sd = sideL (makeC n) (resOf (makeC n) f (makeC n).Head.length) n.T) :
   (flowR (makeC n) r.Res ((n.arcs.length : Nat) : Int)).2 = 0 ∧ withinP n f ∧ valR n f = (r.Ex.getD n.T.toNat 0, 0) ∧ cutP n sd ∧ capR n sd = (r.Ex.getD n.T.toNat 0, 0) ∧ cutTP n f sd := by
  have hg := (make_q hsm).toCsrG
  have hin := refR_in hg hr
  have hpp := hr.1.1.1.2
  have hS := hsm.toNetOK.s
  have hT := hsm.toNetOK.t
  rw [flow_r hin.res hpp] at hf ⊢
  dsimp only at hf
  subst hf
  rw [res_same hsm hin.res hpp] at hsd
  subst hsd
  have hw := flow_within hsm hpp
  have hc := side_cut hsm hr
  have hz : ∀ v : Nat, v < n.N.toNat → (v : Int) ≠ n.S → (v : Int) ≠ n.T → r.Ex.getD v 0 = 0 := fun v hv h1 h2 => by
    have hx := (((refR_iff hg r).1 hr).1.2.2.2 v hv).2 h1
    have hna : ¬ activeP (makeC n) r (v : Int) := fun q => by
      have hm := mem_active.2 ⟨⟨by omega, show (v : Int) < (((makeC n).N.toNat : Nat) : Int) by show (v : Int) < ((n.N.toNat : Nat) : Int); omega⟩, q⟩
      rw [List.length_eq_zero_iff.1 ha] at hm
      cases hm
    have : ¬ r.Ex.getD v 0 > 0 := fun q => hna ⟨⟨h1, h2⟩, by rw [Int.toNat_natCast]; exact q⟩
    omega
  have hzp : zeroP n (flowC n r) n.S n.T := ⟨hw, fun v hv => by
    rw [flow_ex hsm hr hv]
    by_cases h1 : (v : Int) = n.S
    · exact .inr (.inl h1)
    · by_cases h2 : (v : Int) = n.T
      · exact .inr (.inr h2)
      · exact .inl (hz v hv h1 h2)⟩
  refine ⟨rfl, hw, ?_, hc, ?_, ⟨hc, hw⟩, fun k hk => ?_⟩
  · unfold valR; rw [if_pos hzp, flow_ex hsm hr (by omega)]
  · rw [capR_y hc, ← side_capK hsm hr _ (Nat.le_refl _)]
    have e : sumN (fun v => if (sideL (makeC n) r.Res n.T).getD v false = false then (exL n (flowC n r) n.arcs.length).getD v 0 else 0) n.N.toNat = sumN (fun v => if v = n.T.toNat then r.Ex.getD n.T.toNat 0 else 0) n.N.toNat := by
      refine sumN_congr fun v hv => ?_
      rw [flow_ex hsm hr hv]
      by_cases h2 : v = n.T.toNat
      · subst h2; rw [if_pos hc.2.2, if_pos rfl]
      · rw [if_neg h2]
        by_cases h1 : v = n.S.toNat
        · subst h1; rw [if_neg (by rw [hc.2.1]; decide)]
        · rw [hz v hv (by omega) (by omega)]; split <;> rfl
    rw [e, sumN_at _ _ (by omega)]
  · have ht := side_tight hsm hr hk
    exact ⟨fun q => by have := ht.1 q.1 q.2.1; omega, fun q => by have := ht.2 q.1 q.2.1; omega⟩
end Go.Proofs

set_option linter.unusedVariables false
set_option linter.unusedSimpArgs false
namespace Go.Proofs
open Go Go.Sx Go.RowKit
end Go.Proofs
