/- The entries of an index, in plain Lean, and the rows that index.Of gathers them in. No condition. -/
import Derived.Test.YtnbhpmleboildaaGreatDoorY10
import Derived.Test.YtnbhpmleboildaaGreatDoorY19
import Derived.Test.YtnbhpmleboildaaGreatDoorY04
import Derived.Test.YtnbhpmleboildaaGreatDoorY13
import Derived.Test.YtnbhpmleboildaaGreatDoorY06
import Derived.Test.YtnbhpmleboildaaGreatDoorY11
import Derived.Test.YtnbhpmleboildaaGreatDoorY18
import Derived.Test.YtnbhpmleboildaaGreatDoorY14
import Derived.Test.YtnbhpmleboildaaGreatDoorY12
import Derived.Deep.RegionHeld3
import Derived.Deep.RegionLaw
import Derived.Deep.CutRange

set_option linter.all false
namespace Go.Proofs.YtnbhpmleboildaaGreatDoor
open Go.RowKit

/-- What has been gathered. -/
structure OfS where
  mains : List Bs
  subs : Bs → List Bs
  refs : KyP → List Bs
  seen : List KyP
def ofS0 : OfS := ⟨[], fun _ => [], fun _ => [], []⟩
def refStep (st : OfS) (t : KyP) (id : Bs) : OfS := if id = [] then st else { st with refs := fun t' => if t' = t then st.refs t ++ [id] else st.refs t' }
def mainStep (st : OfS) (m : Bs) : OfS := if st.seen.contains (m, []) = true then st else { st with seen := st.seen ++ [(m, [])], mains := st.mains ++ [m] }
def subStep (st : OfS) (m s : Bs) : OfS := if s = [] then st else if st.seen.contains (m, s) = true then st else { st with seen := st.seen ++ [(m, s)], subs := fun m' => if m' = m then st.subs m ++ [s] else st.subs m' }
def ofStep (st : OfS) (x : Inl) : OfS := match okM x with | true => subStep (mainStep (refStep st (mainI x, subI x) x.id) (mainI x)) (mainI x) (subI x) | false => st
def ofAll (ds : List Inl) : OfS := ds.foldl ofStep ofS0
theorem ofAll_take {ds : List Inl} {k : Nat} {x : Inl} (h : ds[k]? = some x) : ofAll (ds.take (k + 1)) = ofStep (ofAll (ds.take k)) x := by
  unfold ofAll
  rw [take_snoc h, List.foldl_append]; rfl
/-- An entry. -/
structure Ent where
  lvl : Int
  text : Bs
  refs : List Bs
def mainE (c : ColT) (st : OfS) (m : Bs) : List Ent := ⟨1, m, st.refs (m, [])⟩ :: (sortT c (st.subs m)).map fun s => ⟨2, s, st.refs (m, s)⟩
def entsIx (c : ColT) (st : OfS) : List Ent := (sortT c st.mains).flatMap (mainE c st)
theorem refStep_mains (st : OfS) (t : KyP) (id : Bs) : (refStep st t id).mains = st.mains ∧ (refStep st t id).subs = st.subs ∧ (refStep st t id).seen = st.seen := by
  unfold refStep; split <;> exact ⟨rfl, rfl, rfl⟩
/-- How many texts have been gathered at most. -/
structure OfL (n : Nat) (st : OfS) : Prop where
  mains : st.mains.length ≤ n
  subs : ∀ m, (st.subs m).length ≤ n
  refs : ∀ t, (st.refs t).length ≤ n
  seen : st.seen.length ≤ 2 * n
theorem ofAll_len (ds : List Inl) : OfL ds.length (ofAll ds) := by
  have key : ∀ (ds : List Inl) (n : Nat) (st : OfS), OfL n st → OfL (n + ds.length) (ds.foldl ofStep st) := by
    intro ds
    induction ds with
    | nil => intro n st h; exact h
    | cons x ds ih =>
      intro n st h
      have h2 : OfL (n + 1) (ofStep st x) := by
        unfold ofStep
        cases okM x with
        | false =>
          show OfL (n + 1) st
          exact ⟨Nat.le_succ_of_le h.mains, fun m => Nat.le_succ_of_le (h.subs m), fun t => Nat.le_succ_of_le (h.refs t), by have := h.seen; omega⟩
        | true =>
          show OfL (n + 1) (subStep (mainStep (refStep st (mainI x, subI x) x.id) (mainI x)) (mainI x) (subI x))
          have a : (∀ t, ((refStep st (mainI x, subI x) x.id).refs t).length ≤ n + 1) := fun t => by
            unfold refStep
            split
            · exact Nat.le_succ_of_le (h.refs t)
            · show (if t = (mainI x, subI x) then st.refs (mainI x, subI x) ++ [x.id] else st.refs t).length ≤ _
              split
              · have := h.refs (mainI x, subI x); simp; omega
              · exact Nat.le_succ_of_le (h.refs t)
          obtain ⟨b1, b2, b3⟩ := refStep_mains st (mainI x, subI x) x.id
          generalize refStep st (mainI x, subI x) x.id = s1 at *
          have c1 : (mainStep s1 (mainI x)).mains.length ≤ n + 1 ∧ (mainStep s1 (mainI x)).seen.length ≤ 2 * n + 1 ∧ (mainStep s1 (mainI x)).subs = st.subs ∧ (mainStep s1 (mainI x)).refs = s1.refs := by
            have h1 := h.mains
            have h3 := h.seen
            unfold mainStep
            split
            · exact ⟨by rw [b1]; omega, by rw [b3]; omega, b2, rfl⟩
            · exact ⟨by simp [b1]; omega, by simp [b3]; omega, b2, rfl⟩
          obtain ⟨c1, c2, c3, c4⟩ := c1
          generalize mainStep s1 (mainI x) = s2 at *
          have hsub : subStep s2 (mainI x) (subI x) = s2 ∨ subStep s2 (mainI x) (subI x) = { s2 with seen := s2.seen ++ [(mainI x, subI x)], subs := fun m' => if m' = mainI x then s2.subs (mainI x) ++ [subI x] else s2.subs m' } := by
            unfold subStep
            by_cases q1 : subI x = []
            · rw [if_pos q1]; exact .inl rfl
            · rw [if_neg q1]
              by_cases q2 : s2.seen.contains (mainI x, subI x) = true
              · rw [if_pos q2]; exact .inl rfl
              · rw [if_neg q2]; exact .inr rfl
          rcases hsub with q | q
          · rw [q]
            exact ⟨c1, fun m => by rw [c3]; exact Nat.le_succ_of_le (h.subs m), fun t => by rw [c4]; exact a t, by omega⟩
          · rw [q]
            refine ⟨c1, fun m => ?_, fun t => by show (s2.refs t).length ≤ _; rw [c4]; exact a t, by show (s2.seen ++ [(mainI x, subI x)]).length ≤ _; simp; omega⟩
            show (if m = mainI x then s2.subs (mainI x) ++ [subI x] else s2.subs m).length ≤ _
            rw [c3]
            split
            · have := h.subs (mainI x); simp; omega
            · exact Nat.le_succ_of_le (h.subs m)
      have h3 := ih (n + 1) _ h2
      rw [List.length_cons, List.foldl_cons]
      rw [show n + (ds.length + 1) = n + 1 + ds.length by omega]; exact h3
  have := key ds 0 ofS0 ⟨Nat.le_refl _, fun _ => Nat.le_refl _, fun _ => Nat.le_refl _, Nat.le_refl _⟩
  rw [Nat.zero_add] at this; exact this
/-- The rows. -/
inductive RIx where
  | main
  | sub (m : Bs)
  | ref (t : KyP)
deriving DecidableEq
abbrev nilV : Value := .slice none 0 0
/-- Rows of texts that a call owns, no two in one block. -/
structure Fam (base : Nat) (w : World) (val : RIx → Value) (con : RIx → List Bs) : Prop where
  row : ∀ i, OutG StrK 1 (fun _ => False) base 9 w (val i) (con i)
  sep : ∀ i j g, i ≠ j → (val i).ownBlock = some g → (val j).ownBlock ≠ some g
theorem Fam.only {T : Nat → Prop} {base : Nat} {w w' : World} {val : RIx → Value} {con : RIx → List Bs} (h : Fam base w val con) (q : Only T w w') (hT : ∀ g, T g → g < base ∨ w.heap.size ≤ g) : Fam base w' val con :=
  ⟨fun i => (h.row i).only strK q (fun _ _ h => h.elim) (fun g hg ht => by have h1 := (h.row i).blk g hg; have := hT g ht; omega), h.sep⟩
theorem Fam.kept {base : Nat} {w w' : World} {val : RIx → Value} {con : RIx → List Bs} (h : Fam base w val con) (k : Kept w w') : Fam base w' val con := ⟨fun i => (h.row i).kept strK k, h.sep⟩
theorem Fam.app {base : Nat} {w w7 : World} {val : RIx → Value} {con : RIx → List Bs} (h : Fam base w val con) (i : RIx) (y : Bs) {v7 : Value} (ho : OutG StrK 1 (fun _ => False) base 9 w7 v7 (con i ++ [y])) (hg : w.grownBy w7 (val i).ownBlock) (hat : ∀ g, v7.ownBlock = some g → (val i).ownBlock = some g ∨ g = w.heap.size) :
    Fam base w7 (fun j => if j = i then v7 else val j) (fun j => if j = i then con i ++ [y] else con j) := by
  have hlt : ∀ j g, (val j).ownBlock = some g → g < w.heap.size := fun j g q => ((h.row j).blk g q).2
  refine ⟨fun j => ?_, fun j k g hne hj hk => ?_⟩
  · by_cases e : j = i
    · rw [if_pos e, if_pos e]; exact ho
    · rw [if_neg e, if_neg e]
      exact (h.row j).only strK (Only.grown hg) (fun _ _ h => h.elim) (fun g q r => h.sep j i g e q r.symm)
  · by_cases ej : j = i
    · have ek : k ≠ i := fun q => hne (ej.trans q.symm)
      rw [if_pos ej] at hj
      rw [if_neg ek] at hk
      rcases hat g hj with q | q
      · exact h.sep i k g (fun q => ek q.symm) q hk
      · have := hlt k g hk; omega
    · rw [if_neg ej] at hj
      by_cases ek : k = i
      · rw [if_pos ek] at hk
        rcases hat g hk with q | q
        · exact h.sep i j g (fun q => ej q.symm) q hj
        · have := hlt j g hj; omega
      · rw [if_neg ek] at hk
        exact h.sep j k g hne hj hk
def valO (vM : Value) (es1 : List (Bs × Value)) (es2 : List (KyP × Value)) : RIx → Value
  | .main => vM
  | .sub m => (getT es1 m).getD nilV
  | .ref t => (getQ es2 t).getD nilV
def conO (st : OfS) : RIx → List Bs
  | .main => st.mains
  | .sub m => st.subs m
  | .ref t => st.refs t
/-- Between two inlines. -/
structure OfM (base M1 M2 M3 : Nat) (st : OfS) (w : World) (vM : Value) (es1 : List (Bs × Value)) (es2 es3 : List (KyP × Value)) : Prop where
  m1 : MapT w M1 es1
  m2 : MapQ w M2 es2
  m3 : MapQ w M3 es3
  fam : Fam base w (valO vM es1 es2) (conO st)
  seen : ∀ t, (getQ es3 t).getD (.bool false) = .bool (st.seen.contains t)
theorem OfM.kept {base M1 M2 M3 : Nat} {st : OfS} {w w' : World} {vM : Value} {es1 : List (Bs × Value)} {es2 es3 : List (KyP × Value)} (h : OfM base M1 M2 M3 st w vM es1 es2 es3) (k : Kept w w') : OfM base M1 M2 M3 st w' vM es1 es2 es3 :=
  ⟨h.m1.kept k, h.m2.kept k, h.m3.kept k, h.fam.kept k, h.seen⟩
/-- A reference has been added. -/
theorem OfM.ref {base M1 M2 M3 : Nat} {st : OfS} {w w7 w8 : World} {vM v7 : Value} {es1 : List (Bs × Value)} {es2 es2' es3 : List (KyP × Value)} (h : OfM base M1 M2 M3 st w vM es1 es2 es3) (h1 : M1 < base) (h2 : M2 < base) (h3 : M3 < base) (n12 : M1 ≠ M2) (n32 : M3 ≠ M2) (t : KyP) (id : Bs) (hid : id ≠ [])
    (ho : OutG StrK 1 (fun _ => False) base 9 w7 v7 (st.refs t ++ [id])) (hg : w.grownBy w7 ((getQ es2 t).getD nilV).ownBlock) (hat : ∀ g, v7.ownBlock = some g → ((getQ es2 t).getD nilV).ownBlock = some g ∨ g = w.heap.size)
    (hq : ∀ k, (getQ es2' k).getD nilV = if k = t then v7 else (getQ es2 k).getD nilV) (h8 : w8 = putQ w7 M2 es2') (hm : MapQ w8 M2 es2') : OfM base M1 M2 M3 (refStep st t id) w8 vM es1 es2' es3 := by
  subst h8
  have hf := h.fam.app (.ref t) id ho hg hat
  have hrow : ∀ g, ((getQ es2 t).getD nilV).ownBlock = some g → base ≤ g := fun g q => ((h.fam.row (.ref t)).blk g q).1
  have e1 : (fun j => if j = RIx.ref t then v7 else valO vM es1 es2 j) = valO vM es1 es2' := by
    funext j
    cases j with
    | main => rfl
    | sub m => rfl
    | ref t' =>
      show (if RIx.ref t' = RIx.ref t then v7 else (getQ es2 t').getD nilV) = (getQ es2' t').getD nilV
      rw [hq t']
      by_cases e : t' = t
      · rw [if_pos (by rw [e]), if_pos e]
      · rw [if_neg (fun q => e (by cases q; rfl)), if_neg e]
  have e2 : (fun j => if j = RIx.ref t then conO st (.ref t) ++ [id] else conO st j) = conO (refStep st t id) := by
    funext j
    unfold refStep
    rw [if_neg hid]
    cases j with
    | main => rfl
    | sub m => rfl
    | ref t' =>
      show (if RIx.ref t' = RIx.ref t then st.refs t ++ [id] else st.refs t') = if t' = t then st.refs t ++ [id] else st.refs t'
      by_cases e : t' = t
      · rw [if_pos (by rw [e]), if_pos e]
      · rw [if_neg (fun q => e (by cases q; rfl)), if_neg e]
  rw [e1, e2] at hf
  refine ⟨(h.m1.only (Only.grown hg) (fun q => by have := hrow _ q.symm; omega)).only (putQ_only w7 M2 es2') n12, hm, (h.m3.only (Only.grown hg) (fun q => by have := hrow _ q.symm; omega)).only (putQ_only w7 M2 es2') n32, hf.only (putQ_only w7 M2 es2') (fun g q => .inl (by omega)), fun k => ?_⟩
  rw [(refStep_mains st t id).2.2]; exact h.seen k
/-- The entry of a key has been made. -/
theorem OfM.entry {base M1 M2 M3 : Nat} {st : OfS} {w : World} {vM : Value} {es1 : List (Bs × Value)} {es2 es2' es3 : List (KyP × Value)} (h : OfM base M1 M2 M3 st w vM es1 es2 es3) (h2 : M2 < base) (n12 : M1 ≠ M2) (n32 : M3 ≠ M2) (hq : ∀ k, (getQ es2' k).getD nilV = (getQ es2 k).getD nilV) : OfM base M1 M2 M3 st (putQ w M2 es2') vM es1 es2' es3 := by
  have ho := putQ_only w M2 es2'
  have e : valO vM es1 es2' = valO vM es1 es2 := by
    funext j
    cases j with
    | main => rfl
    | sub m => rfl
    | ref t => exact hq t
  exact ⟨h.m1.only ho n12, putQ_map w M2 es2' h.m2.lt, h.m3.only ho n32, by rw [e]; exact h.fam.only ho (fun g q => .inl (by omega)), h.seen⟩
theorem OfM.ref2 {base M1 M2 M3 n : Nat} {st : OfS} {w w7 : World} {vM v0 v7 : Value} {es1 : List (Bs × Value)} {es2 es2' es3 : List (KyP × Value)} (h : OfM base M1 M2 M3 st w vM es1 es2 es3) (h1 : M1 < base) (h2 : M2 < base) (h3 : M3 < base) (n12 : M1 ≠ M2) (n32 : M3 ≠ M2) (t : KyP) (id : Bs) (hid : id ≠ []) (hv0 : (getQ es2 t).getD nilV = v0)
    (ho : OutG StrK 1 (fun _ => False) base 9 w7 v7 (st.refs t ++ [id])) (hg : (putQ w M2 es2').grownBy w7 v0.ownBlock) (hat : ∀ g, v7.ownBlock = some g → v0.ownBlock = some g ∨ g = (putQ w M2 es2').heap.size)
    (hq : ∀ k, (getQ es2' k).getD nilV = (getQ es2 k).getD nilV) (hq2 : ∀ u k', getQ (es2'.set n (t, u)) k' = if k' = t then some u else getQ es2 k') (hm : M2 < w7.heap.size) : OfM base M1 M2 M3 (refStep st t id) (putQ w7 M2 (es2'.set n (t, v7))) vM es1 (es2'.set n (t, v7)) es3 := by
  have e := (hq t).trans hv0
  refine OfM.ref (h.entry h2 n12 n32 hq) h1 h2 h3 n12 n32 t id hid ho (by rw [e]; exact hg) (by rw [e]; exact hat) (fun k => ?_) rfl (putQ_map _ _ _ hm)
  rw [hq2]
  by_cases q : k = t
  · rw [if_pos q, if_pos q]; rfl
  · rw [if_neg q, if_neg q, hq k]
/-- A main term has been added. -/
theorem OfM.main {base M1 M2 M3 : Nat} {st : OfS} {w w6 w7 : World} {vM v7 : Value} {es1 : List (Bs × Value)} {es2 es3 es3' : List (KyP × Value)} (h : OfM base M1 M2 M3 st w vM es1 es2 es3) (h1 : M1 < base) (h2 : M2 < base) (h3 : M3 < base) (n13 : M1 ≠ M3) (n23 : M2 ≠ M3) (m : Bs) (hns : st.seen.contains (m, []) = false)
    (hq : ∀ k, getQ es3' k = if k = (m, []) then some (.bool true) else getQ es3 k) (h6 : Kept (putQ w M3 es3') w6) (hm : MapQ w6 M3 es3') (ho : OutG StrK 1 (fun _ => False) base 9 w7 v7 (st.mains ++ [m])) (hg : w6.grownBy w7 vM.ownBlock) (hat : ∀ g, v7.ownBlock = some g → vM.ownBlock = some g ∨ g = w6.heap.size) :
    OfM base M1 M2 M3 (mainStep st m) w7 v7 es1 es2 es3' := by
  have ho6 := (putQ_only w M3 es3').trans (Only.of_kept h6)
  have hf6 := h.fam.only ho6 (fun g q => .inl (by omega))
  have hf := hf6.app .main m ho hg hat
  have hrow : ∀ g, vM.ownBlock = some g → base ≤ g := fun g q => ((h.fam.row .main).blk g q).1
  have hs : mainStep st m = { st with seen := st.seen ++ [(m, [])], mains := st.mains ++ [m] } := by unfold mainStep; rw [if_neg (by rw [hns]; simp)]
  have e1 : (fun j => if j = RIx.main then v7 else valO vM es1 es2 j) = valO v7 es1 es2 := by
    funext j; cases j <;> rfl
  have e2 : (fun j => if j = RIx.main then conO st .main ++ [m] else conO st j) = conO (mainStep st m) := by
    rw [hs]; funext j; cases j <;> rfl
  rw [e1, e2] at hf
  refine ⟨(h.m1.only ho6 n13).only (Only.grown hg) (fun q => by have := hrow _ q.symm; omega), (h.m2.only ho6 n23).only (Only.grown hg) (fun q => by have := hrow _ q.symm; omega), hm.only (Only.grown hg) (fun q => by have := hrow _ q.symm; omega), hf, fun k => ?_⟩
  rw [hq k, hs]
  show _ = Value.bool ((st.seen ++ [(m, [])]).contains k)
  by_cases e : k = (m, [])
  · rw [if_pos e, e]; simp
  · rw [if_neg e, h.seen k]
    congr 1
    have : (k == (m, [])) = false := by simpa using e
    rw [List.contains_eq_any_beq, List.contains_eq_any_beq, List.any_append]
    simp only [List.any_cons, List.any_nil, this, Bool.or_false]
/-- A subterm has been added. -/
theorem OfM.sub {base M1 M2 M3 : Nat} {st : OfS} {w w6 w7 w8 : World} {vM v7 : Value} {es1 es1' : List (Bs × Value)} {es2 es3 es3' : List (KyP × Value)} (h : OfM base M1 M2 M3 st w vM es1 es2 es3) (h1 : M1 < base) (h2 : M2 < base) (h3 : M3 < base) (n13 : M1 ≠ M3) (n23 : M2 ≠ M3) (n12 : M2 ≠ M1) (m s : Bs) (hse : s ≠ []) (hns : st.seen.contains (m, s) = false)
    (hq : ∀ k, getQ es3' k = if k = (m, s) then some (.bool true) else getQ es3 k) (h6 : Kept (putQ w M3 es3') w6) (hm : MapQ w6 M3 es3') (ho : OutG StrK 1 (fun _ => False) base 9 w7 v7 (st.subs m ++ [s])) (hg : w6.grownBy w7 ((getT es1 m).getD nilV).ownBlock) (hat : ∀ g, v7.ownBlock = some g → ((getT es1 m).getD nilV).ownBlock = some g ∨ g = w6.heap.size)
    (hq1 : ∀ k, getT es1' k = if k = m then some v7 else getT es1 k) (h8 : w8 = putT w7 M1 es1') (hm1 : MapT w8 M1 es1') : OfM base M1 M2 M3 (subStep st m s) w8 vM es1' es2 es3' := by
  subst h8
  have ho6 := (putQ_only w M3 es3').trans (Only.of_kept h6)
  have hf6 := h.fam.only ho6 (fun g q => .inl (by omega))
  have hf := hf6.app (.sub m) s ho hg hat
  have hrow : ∀ g, ((getT es1 m).getD nilV).ownBlock = some g → base ≤ g := fun g q => ((h.fam.row (.sub m)).blk g q).1
  have hs : subStep st m s = { st with seen := st.seen ++ [(m, s)], subs := fun m' => if m' = m then st.subs m ++ [s] else st.subs m' } := by unfold subStep; rw [if_neg hse, if_neg (by rw [hns]; simp)]
  have e1 : (fun j => if j = RIx.sub m then v7 else valO vM es1 es2 j) = valO vM es1' es2 := by
    funext j
    cases j with
    | main => rfl
    | ref t => rfl
    | sub m' =>
      show (if RIx.sub m' = RIx.sub m then v7 else (getT es1 m').getD nilV) = (getT es1' m').getD nilV
      rw [hq1 m']
      by_cases e : m' = m
      · rw [if_pos (by rw [e]), if_pos e]; rfl
      · rw [if_neg (fun q => e (by cases q; rfl)), if_neg e]
  have e2 : (fun j => if j = RIx.sub m then conO st (.sub m) ++ [s] else conO st j) = conO (subStep st m s) := by
    rw [hs]
    funext j
    cases j with
    | main => rfl
    | ref t => rfl
    | sub m' =>
      show (if RIx.sub m' = RIx.sub m then st.subs m ++ [s] else st.subs m') = if m' = m then st.subs m ++ [s] else st.subs m'
      by_cases e : m' = m
      · rw [if_pos (by rw [e]), if_pos e]
      · rw [if_neg (fun q => e (by cases q; rfl)), if_neg e]
  rw [e1, e2] at hf
  refine ⟨hm1, ((h.m2.only ho6 n23).only (Only.grown hg) (fun q => by have := hrow _ q.symm; omega)).only (putT_only w7 M1 es1') n12, (hm.only (Only.grown hg) (fun q => by have := hrow _ q.symm; omega)).only (putT_only w7 M1 es1') (fun q => n13 q.symm), hf.only (putT_only w7 M1 es1') (fun g q => .inl (by omega)), fun k => ?_⟩
  rw [hq k, hs]
  show _ = Value.bool ((st.seen ++ [(m, s)]).contains k)
  by_cases e : k = (m, s)
  · rw [if_pos e, e]; simp
  · rw [if_neg e, h.seen k]
    congr 1
    have : (k == (m, s)) = false := by simpa using e
    rw [List.contains_eq_any_beq, List.contains_eq_any_beq, List.any_append]
    simp only [List.any_cons, List.any_nil, this, Bool.or_false]
end Go.Proofs.YtnbhpmleboildaaGreatDoor

/- Steps of regions that draw their order; a cut behind such a region; rows of whole numbers; a map of one key. No condition. -/
set_option linter.all false
namespace Go.Proofs.YtnbhpmleboildaaGreatDoor
open Go.RowKit

section
variable {α β : Type} {R : (Nat → Prop) → World → List Value → α → Prop} {R' : (Nat → Prop) → World → List Value → β → Prop} {k k' : Nat} {A A' : Nat → Prop} {base base' : Nat} {e e' : TypeId} {w w' : World} {v v' : Value} {xs : List α} {ys : List β}
/-- Own rows of different elements lie in different blocks. -/
theorem OutG.ne (h : OutG R k A base e w v xs) (h' : OutG R' k' A' base' e' w v' ys) (hne : e ≠ e') (g : Nat) (hg : v.ownBlock = some g) : v'.ownBlock ≠ some g := by
  intro hg'
  obtain ⟨_, _, _, ho, _⟩ := h
  obtain ⟨_, _, _, ho', _⟩ := h'
  rcases ho.2 with ⟨hv, _⟩ | ⟨g1, _, cur, hv, _, hb, _⟩
  · rw [hv] at hg; cases hg
  · rcases ho'.2 with ⟨hv', _⟩ | ⟨g2, _, cur', hv', _, hb', _⟩
    · rw [hv'] at hg'; cases hg'
    · rw [hv] at hg
      rw [hv'] at hg'
      have e1 : g1 = g := by simpa [Value.ownBlock] using hg
      have e2 : g2 = g := by simpa [Value.ownBlock] using hg'
      rw [e1] at hb
      rw [e2, hb] at hb'
      cases hb'
      exact hne rfl
/-- An own row lies in no block that is known as something else. -/
theorem OutG.ne_blk (h : OutG R k A base e w v xs) {b : Nat} {t : TypeId} {cs : Array Value} (hb : Blk w b t cs) (hne : e ≠ t) : v.ownBlock ≠ some b := by
  intro hg
  obtain ⟨_, _, _, ho, _⟩ := h
  rcases ho.2 with ⟨hv, _⟩ | ⟨g1, _, cur, hv, _, hbb, _⟩
  · rw [hv] at hg; cases hg
  · rw [hv] at hg
    have e1 : g1 = b := by simpa [Value.ownBlock] using hg
    rw [e1] at hbb
    have h2 : w.heap[b]? = some (.cells cs t (0, 0)) := hb
    rw [h2] at hbb
    cases hbb
    exact hne rfl
end
section
variable {P : Program} {tm ti te : TypeId}
end
end Go.Proofs.YtnbhpmleboildaaGreatDoor

/- index.Of: the entries of a document. Conditions: lengths. -/
set_option linter.all false
namespace Go.Proofs.YtnbhpmleboildaaGreatDoor
open Go.RowKit

section
variable {P : Program} {tm ti te : TypeId}
theorem lookT_no (hm : P.underlying tm = some (.map ti te)) (hi : P.underlying ti = some .string) (w : World) (m : Nat) (es : List (Bs × Value)) (k : Bs) (z : Value) (hz : (zeroValue te).run P w = .ok z w) (h : MapT w m es) :
    (Instr.lookup tm (.map (some m)) (.string (bs k)) false).run P w = .ok ((getT es k).getD z) w := by
  unfold MapT at h
  unfold Instr.lookup
  simp only [Sem.run_bind, run_underlying hm, Result.andThen]
  rcases runT hi w es k with ⟨g1, g2⟩ | ⟨n, v, g1, _, g3, _⟩
  · simp only [getObj, Sem.run_bind, Sem.run, h, Result.andThen, Sem.run_pure, check_str hi, g2, g1, hz]
    simp [Sem.run_pure]
  · simp only [getObj, Sem.run_bind, Sem.run, h, Result.andThen, Sem.run_pure, check_str hi, g3, g1]
    simp [Sem.run_pure]
theorem putT_any (hm : P.underlying tm = some (.map ti te)) (hi : P.underlying ti = some .string) (w : World) (m : Nat) (es : List (Bs × Value)) (k : Bs) (v : Value) (h : MapT w m es) :
    ∃ es', (∀ k', getT es' k' = if k' = k then some v else getT es k') ∧ (Instr.mapUpdate tm (.map (some m)) (.string (bs k)) v).run P w = .ok () (putT w m es') := by
  cases hk : getT es k with
  | none => exact ⟨_, fun k' => getT_snoc hk v k', insT hm hi w m es k v h hk⟩
  | some v0 => exact overT hm hi w m es k v v0 h hk
end
mutual
theorem okI1_deep : ∀ (x : Inl), okI1 x → ∀ y ∈ deep1 x, okI1 y
  | .mk kind text dest title id cls prs args cits kids, h, y, hy => by
    rcases List.mem_cons.1 (show y ∈ Inl.mk kind text dest title id cls prs args cits kids :: deepL kids from hy) with rfl | r
    · exact h
    · exact okIL_deep kids h.2 y r
theorem okIL_deep : ∀ (xs : List Inl), okIL xs → ∀ y ∈ deepL xs, okI1 y
  | [], _, y, hy => (List.not_mem_nil hy).elim
  | x :: xs, h, y, hy => by
    rcases List.mem_append.1 (show y ∈ deep1 x ++ deepL xs from hy) with r | r
    · exact okI1_deep x h.1 y r
    · exact okIL_deep xs h.2 y r
end
mutual
theorem okB1_inls : ∀ (x : Blo), okB1 x → ∀ y ∈ inls1 x, okI1 y
  | .mk kind level info text dest title id cls prs line kids, h, y, hy => by
    rcases List.mem_append.1 (show y ∈ deepL line ++ inlsL kids from hy) with r | r
    · exact okIL_deep line h.2.1 y r
    · exact okBL_inls kids h.2.2 y r
theorem okBL_inls : ∀ (xs : List Blo), okBL xs → ∀ y ∈ inlsL xs, okI1 y
  | [], _, y, hy => (List.not_mem_nil hy).elim
  | x :: xs, h, y, hy => by
    rcases List.mem_append.1 (show y ∈ inls1 x ++ inlsL xs from hy) with r | r
    · exact okB1_inls x h.1 y r
    · exact okBL_inls xs h.2 y r
end
theorem zero_strs (w : World) : (zeroValue 26).run Tryz.prog w = .ok (.slice none 0 0) w := by kernel_rfl
theorem zero_bl (w : World) : (zeroValue 4).run Tryz.prog w = .ok (.bool false) w := by kernel_rfl
theorem neq_tm (m s t : Bs) (w : World) : (binOp .neq 62 (.agg #[.string (bs m), .string (bs s)]) (.agg #[.string (bs m), .string (bs t)])).run Tryz.prog w = .ok (.bool (!(s == t))) w := by
  have h : (binOp .neq 62 (.agg #[.string (bs m), .string (bs s)]) (.agg #[.string (bs m), .string (bs t)])).run Tryz.prog w = if s = t then Result.ok (.bool false) w else Result.ok (.bool true) w := by
    by_cases q : s = t
    · subst q
      simp [go_sem, Tryz.underlying62]
    · simp [go_sem, Tryz.underlying62, q]
  rw [h]
  by_cases q : s = t
  · simp [q]
  · simp [q]
theorem step_outS {w : World} {ops : Array Oper} {o : Oper} {a : Act} {K : Act → World → Prop} {Q : Exit → Act → World → Prop} {E : Prop} (hgd : o.guard = none) (s x : Operand)
    (ho : o.op = .call { callee := .builtin .append, args := #[s, x], argTypes := #[26, 26] })
    (base : Nat) (v : Value) (ys : List Bs) (hs : a.eval s = v) (hown : OutG StrK 1 (fun _ => False) base 9 w v ys) (g0 : Nat) (y : Bs) (hx : a.eval x = .slice (some ⟨g0, 0, none⟩) 1 1) (hb : w.cell? ⟨g0, 0, none⟩ = some (.string (bs y))) (hn : ys.length ≤ 1000000) (hbase : base ≤ w.heap.size)
    (h : ∀ g cap w', OutG StrK 1 (fun _ => False) base 9 w' (.slice (some ⟨g, 0, none⟩) (ys.length + 1) cap) (ys ++ [y]) → w.grownBy w' v.ownBlock → (v.ownBlock = some g ∨ g = w.heap.size) → K (a.put o.dst (.slice (some ⟨g, 0, none⟩) (ys.length + 1) cap)) w') : if Region.wanted o (yielded ops a.tmps) = true then Oper.wp Tryz.prog o a w K Q else E := by
  rw [if_pos (by simp [Region.wanted, hgd])]
  obtain ⟨i0, hi, hz0, hz1, hz2⟩ := info_parts Tryz.infoStr
  obtain ⟨css, h1, h2, ho2, h4⟩ := hown
  refine wp_append_all w s x 26 ho base 9 i0 (.string ⟨#[]⟩) 1 16 Tryz.underlying26 hi hz0 hz1 hz2 rfl (by decide) v ys.length css.flatten hs ho2 (some ⟨g0, 0, none⟩) 1 1 [.string (bs y)] hx rfl (fun _ => ⟨g0, 0, rfl, fun j u hu => by
    cases j with
    | zero => cases hu; exact hb
    | succ j => simp at hu⟩) (by simp [Value.oneCell']) (by unfold maxLen; omega) (by omega) hbase (fun v' w' q1 q2 q3 => ?_)
  obtain ⟨a', c', rfl, _, _, hcell⟩ := own_cap q1
  obtain ⟨g, rfl, _, _, _⟩ := hcell (by omega)
  have hat := q3 g rfl
  refine h g c' w' ?_ q2 hat
  exact OutG.app (ys := [y]) (css2 := [[.string (bs y)]]) strK h1 h2 h4 rfl (fun c hc => by simp at hc; subst hc; rfl) (fun j c u hc hu => by
    cases j with
    | zero => cases hc; cases hu; rfl
    | succ j => simp at hc) (by simpa using q1) q2 hat
/-- How an entry is read. -/
def EntK (S : Nat → Prop) (w : World) (cs : List Value) (x : Ent) : Prop := ∃ vR, cs = [.int .i64 x.lvl, .string (bs []), .string (bs x.text), .slice none 0 0, vR] ∧ Strs w vR x.refs ∧ InB S vR x.refs.length
theorem entKR : ReadK EntK := ⟨fun ⟨vR, h1, h2, h3⟩ k hS => ⟨vR, h1, h2.sam h3 k, h3.mono fun g hg q r => hS g (h2.ltB q g hg) r⟩, fun ⟨vR, h1, ⟨a, c, h2, _⟩, _⟩ u hu => by
  rw [h1, h2] at hu
  simp only [List.mem_cons, List.not_mem_nil, or_false] at hu
  rcases hu with rfl | rfl | rfl | rfl | rfl <;> rfl⟩
theorem Tryz.infoEn5 : (Tryz.prog.info? 44).map (fun i => (i.zero, i.size, i.bytes)) = some (some (.agg #[.int .i64 0, .string ⟨#[]⟩, .string ⟨#[]⟩, .slice none 0 0, .slice none 0 0]), 5, 88) := by kernel_rfl
/-- Texts of terms are short. -/
def okS (ds : List Inl) : Prop := ∀ x ∈ ds, (termTx x).length ≤ 100000
theorem ofAll_short (B : Nat) : ∀ (ds : List Inl), (∀ x ∈ ds, (termTx x).length ≤ B) → (∀ m ∈ (ofAll ds).mains, m.length ≤ B) ∧ ∀ m, ∀ s ∈ (ofAll ds).subs m, s.length ≤ B := by
  have key : ∀ (ds : List Inl) (st : OfS), (∀ x ∈ ds, (termTx x).length ≤ B) → ((∀ m ∈ st.mains, m.length ≤ B) ∧ ∀ m, ∀ s ∈ st.subs m, s.length ≤ B) → (∀ m ∈ (ds.foldl ofStep st).mains, m.length ≤ B) ∧ ∀ m, ∀ s ∈ (ds.foldl ofStep st).subs m, s.length ≤ B := by
    intro ds
    induction ds with
    | nil => intro st _ h; exact h
    | cons x ds ih =>
      intro st hx h
      refine ih _ (fun y hy => hx y (List.mem_cons_of_mem _ hy)) ?_
      have hl := hx x (List.mem_cons_self ..)
      have h1 := Nat.le_trans (mainI_len x) hl
      have h2 := Nat.le_trans (subI_len x) hl
      unfold ofStep
      cases okM x with
      | false => exact h
      | true =>
        show (∀ m ∈ (subStep (mainStep (refStep st (mainI x, subI x) x.id) (mainI x)) (mainI x) (subI x)).mains, m.length ≤ B) ∧ ∀ m, ∀ s ∈ (subStep (mainStep (refStep st (mainI x, subI x) x.id) (mainI x)) (mainI x) (subI x)).subs m, s.length ≤ B
        obtain ⟨b1, b2, b3⟩ := refStep_mains st (mainI x, subI x) x.id
        generalize refStep st (mainI x, subI x) x.id = s1 at *
        have c1 : (∀ m ∈ (mainStep s1 (mainI x)).mains, m.length ≤ B) ∧ (mainStep s1 (mainI x)).subs = st.subs := by
          unfold mainStep
          by_cases q : s1.seen.contains (mainI x, []) = true
          · rw [if_pos q, b1]; exact ⟨h.1, b2⟩
          · rw [if_neg q]
            refine ⟨fun m hm => ?_, b2⟩
            rcases List.mem_append.1 (show m ∈ s1.mains ++ [mainI x] from hm) with r | r
            · rw [b1] at r; exact h.1 m r
            · rw [List.mem_singleton.1 r]; exact h1
        obtain ⟨c1, c2⟩ := c1
        generalize mainStep s1 (mainI x) = s2 at *
        unfold subStep
        by_cases q1 : subI x = []
        · rw [if_pos q1]; exact ⟨c1, fun m => by rw [c2]; exact h.2 m⟩
        · rw [if_neg q1]
          by_cases q2 : s2.seen.contains (mainI x, subI x) = true
          · rw [if_pos q2]; exact ⟨c1, fun m => by rw [c2]; exact h.2 m⟩
          · rw [if_neg q2]
            refine ⟨c1, fun m s hs => ?_⟩
            have hs' : s ∈ if m = mainI x then s2.subs (mainI x) ++ [subI x] else s2.subs m := hs
            rw [c2] at hs'
            by_cases q3 : m = mainI x
            · rw [if_pos q3] at hs'
              rcases List.mem_append.1 hs' with r | r
              · exact h.2 _ s r
              · rw [List.mem_singleton.1 r]; exact h2
            · rw [if_neg q3] at hs'; exact h.2 m s hs'
  intro ds h
  exact key ds ofS0 h ⟨fun m hm => (List.not_mem_nil hm).elim, fun m s hs => (List.not_mem_nil hs).elim⟩
def OfPo (es : List Ent) (w : World) (e : Ending) (w' : World) : Prop := ∃ v, e = .returned v ∧ RowR (fun g => w.heap.size ≤ g) 5 (EntK (fun g => w.heap.size ≤ g) w') w' v es ∧ Kept w w'
theorem entK_mk {bw bE : Nat} {w : World} {vE vR : Value} {n : Int} {t : Bs} {rs : List Bs} (h : OutG StrK 1 (fun _ => False) bw 9 w vR rs) (hlt : ∀ g, vR.ownBlock = some g → g < bE) (hv : ∀ g, vE.ownBlock = some g → bE ≤ g) : EntK (fun g => (bw ≤ g ∧ g < bE) ∧ vE.ownBlock ≠ some g) w [.int .i64 n, .string (bs []), .string (bs t), .slice none 0 0, vR] ⟨n, t, rs⟩ :=
  ⟨vR, rfl, Strs.outG h, fun _ g hg => ⟨⟨(h.blk g hg).1, hlt g hg⟩, fun q => by have h1 := hlt g hg; have h2 := hv g q; omega⟩⟩
/-- To stop a walk at an operation: go_wp2_with (at_builtin; refine holdP ?_), then refine Lib.hid ?_. -/
theorem holdP {p : Prop} (h : Hid p) : p := h.out
set_option maxRecDepth 100000 in
set_option maxHeartbeats 25600000 in
theorem of_any (N n : Nat) (aM : Option Addr) (nM cM : Nat) (v vR vO : Value) (c : ColT) (xs : List Blo) (w : World) (hg : Gnd w) (hv : Bls (fun g => g < w.heap.size) N n w v xs) (hc : Col w vR vO c) (hs : SmallC c) (hl : xs.length ≤ 1000000) (hok : okBL xs) (how : okWB xs) (hsh : okS (inlsL xs)) (hni : (inlsL xs).length ≤ 500) :
    Calls Tryz.prog 11 #[.agg #[.slice aM nM cM, v], colV vR vO c.ignore] w (OfPo (entsIx c (ofAll (inlsL xs))) w) := by
  obtain ⟨i0, hi, hz0, hz1, hz2⟩ := info_parts Tryz.infoStr
  obtain ⟨j0, hj, hy0, hy1, hy2⟩ := info_parts Tryz.infoEn5
  obtain ⟨fs2, H2⟩ := Tryz.keyTerm 26 58 Tryz.underlying58
  obtain ⟨fs3, H3⟩ := Tryz.keyTerm 4 59 Tryz.underlying59
  have HH2 := Lib.hid H2
  have HH3 := Lib.hid H3
  have HSM := Lib.hid hs
  have HG := Lib.hid hg
  have HCO := Lib.hid hc
  have HOW := Lib.hid how
  have HOK := Lib.hid hok
  have HIOK := Lib.hid (okBL_inls xs hok)
  obtain ⟨a, cx, rfl, hcx⟩ := hv.form
  obtain ⟨aR, cR, rfl, lR⟩ := hc.1.form
  obtain ⟨aO, cO, rfl, lO⟩ := hc.2.form
  have HV := Lib.hid hv
  obtain ⟨B, HBB⟩ : ∃ B, Hid (w.heap.size = B) := ⟨_, rfl⟩
  have hbl := ofAll_len (inlsL xs)
  have hbs := ofAll_short 100000 (inlsL xs) hsh
  have HBL := Lib.hid hbl
  have HBS := Lib.hid hbs
  have mk1 := run_makeMap (P := Tryz.prog) 57 ((w.alloc (.cells #[.slice aM nM cM, .slice a xs.length cx] 25)).alloc (.cells #[.slice aR c.ranks.length cR, .slice aO c.order.length cO, .string (bs c.ignore)] 28))
  have mk2 := run_makeMap (P := Tryz.prog) 58 (((w.alloc (.cells #[.slice aM nM cM, .slice a xs.length cx] 25)).alloc (.cells #[.slice aR c.ranks.length cR, .slice aO c.order.length cO, .string (bs c.ignore)] 28)).alloc (.map #[] 0))
  have mk3 := run_makeMap (P := Tryz.prog) 59 ((((w.alloc (.cells #[.slice aM nM cM, .slice a xs.length cx] 25)).alloc (.cells #[.slice aR c.ranks.length cR, .slice aO c.order.length cO, .string (bs c.ignore)] 28)).alloc (.map #[] 0)).alloc (.map #[] 0))
  clear hg hv hc hs hok how hsh H2 H3 hbl hbs
  go_enter Tryz.func11, Tryz.ntmps11
  go_wp2_with fail
  rw [HBB.out]
  have HD0 := (((((Blk.new w 25 #[.slice aM nM cM, .slice a xs.length cx]).alloc (.cells #[.slice aR c.ranks.length cR, .slice aO c.order.length cO, .string (bs c.ignore)] 28)).alloc (.map #[] 0)).alloc (.map #[] 0)).alloc (.map #[] 0))
  have HC0 := ((((Blk.new (w.alloc (.cells #[.slice aM nM cM, .slice a xs.length cx] 25)) 28 #[.slice aR c.ranks.length cR, .slice aO c.order.length cO, .string (bs c.ignore)]).alloc (.map #[] 0)).alloc (.map #[] 0)).alloc (.map #[] 0))
  have hm1 := ((MapT.made ((w.alloc (.cells #[.slice aM nM cM, .slice a xs.length cx] 25)).alloc (.cells #[.slice aR c.ranks.length cR, .slice aO c.order.length cO, .string (bs c.ignore)] 28))).kept (kept_alloc _ (.map #[] 0))).kept (kept_alloc _ (.map #[] 0))
  have hm2 := (MapQ.made (((w.alloc (.cells #[.slice aM nM cM, .slice a xs.length cx] 25)).alloc (.cells #[.slice aR c.ranks.length cR, .slice aO c.order.length cO, .string (bs c.ignore)] 28)).alloc (.map #[] 0))).kept (kept_alloc _ (.map #[] 0))
  have hm3 := MapQ.made ((((w.alloc (.cells #[.slice aM nM cM, .slice a xs.length cx] 25)).alloc (.cells #[.slice aR c.ranks.length cR, .slice aO c.order.length cO, .string (bs c.ignore)] 28)).alloc (.map #[] 0)).alloc (.map #[] 0))
  simp only [World.size_alloc, HBB.out] at HD0 HC0 hm1 hm2 hm3
  have HK0 := Lib.hid ((((((kept_alloc w (.cells #[.slice aM nM cM, .slice a xs.length cx] 25)).trans (kept_alloc _ (.cells #[.slice aR c.ranks.length cR, .slice aO c.order.length cO, .string (bs c.ignore)] 28))).trans (kept_alloc _ (.map #[] 0))).trans (kept_alloc _ (.map #[] 0))).trans (kept_alloc _ (.map #[] 0))))
  have hsz : (((((w.alloc (.cells #[.slice aM nM cM, .slice a xs.length cx] 25)).alloc (.cells #[.slice aR c.ranks.length cR, .slice aO c.order.length cO, .string (bs c.ignore)] 28)).alloc (.map #[] 0)).alloc (.map #[] 0)).alloc (.map #[] 0)).heap.size = B + 5 := by simp; exact HBB.out
  have HD := Lib.hid HD0
  have HC := Lib.hid HC0
  have HM1 := Lib.hid hm1
  have HM2 := Lib.hid hm2
  have HM3 := Lib.hid hm3
  clear HD0 HC0 hm1 hm2 hm3 mk1 mk2 mk3
  generalize (((((w.alloc (.cells #[.slice aM nM cM, .slice a xs.length cx] 25)).alloc (.cells #[.slice aR c.ranks.length cR, .slice aO c.order.length cO, .string (bs c.ignore)] 28)).alloc (.map #[] 0)).alloc (.map #[] 0)).alloc (.map #[] 0)) = w0 at *
  have HSZ := Lib.hid hsz
  clear hsz
  refine (inlines_any n N w.heap.size (.slice a xs.length cx) xs w0 HK0.out.size (HV.out.sam (S' := fun g => g < w.heap.size) (Sam.kept HK0.out) (fun _ _ q => q)) hl HOK.out (by omega)).mono ?_
  rintro e w2 ⟨v2, rfl, hR, hk2⟩
  obtain ⟨a2, c2, rfl, hc2⟩ := hR.form
  have hb2 : B + 5 ≤ w2.heap.size := by have := hk2.size; have := HSZ.out; omega
  have hR2 : Lns (fun g => g < w2.heap.size ∧ g ≠ B + 1 + 1 ∧ g ≠ B + 1 + 1 + 1 ∧ g ≠ B + 1 + 1 + 1 + 1) (N + 1) w2 (.slice a2 (inlsL xs).length c2) (inlsL xs) := hR.sam (fun _ _ _ => rfl) (fun g hg q => by have := HBB.out; have := HSZ.out; omega)
  have HR2 := Lib.hid hR2
  have HK2 := Lib.hid (HK0.out.trans hk2)
  have HC2 := Lib.hid (HC.out.kept hk2)
  have HM12 := Lib.hid (HM1.out.kept hk2)
  have HM22 := Lib.hid (HM2.out.kept hk2)
  have HM32 := Lib.hid (HM3.out.kept hk2)
  have HB2 := Lib.hid hb2
  clear hR hR2 hk2 hb2 HD HC HM1 HM2 HM3 HK0 HSZ
  go_wp2_with fail
  obtain ⟨ds, HDS⟩ : ∃ ds, Hid (inlsL xs = ds) := ⟨_, rfl⟩
  rw [HDS.out] at HR2 HBL HBS HIOK hc2 hni ⊢
  have HXW : Hid (∀ x ∈ ds, okX x) := fun x hx => HOW.out x (by rw [HDS.out]; exact hx)
  obtain ⟨stF, HSTF⟩ : ∃ stF, Hid (ofAll ds = stF) := ⟨_, rfl⟩
  rw [HSTF.out] at HBL HBS ⊢
  obtain ⟨bw, HBW⟩ : ∃ bw, Hid (w2.heap.size = bw) := ⟨_, rfl⟩
  have HFIN : Hid (∀ w9 v, OutG EntK 5 (fun g => bw ≤ g) bw 44 w9 v (entsIx c stF) → Kept w w9 → OfPo (entsIx c stF) w (.returned v) w9) := fun w9 v h1 h2 => ⟨v, rfl, h1.row entKR (fun g _ q => by have h3 := HK2.out.size; have h4 := HBW.out; omega) (fun g q => by have h3 := HK2.out.size; have h4 := HBW.out; omega), h2⟩
  have HM0 : Hid (OfM bw (B + 1 + 1) (B + 1 + 1 + 1) (B + 1 + 1 + 1 + 1) ofS0 w2 nilV [] [] []) := ⟨HM12.out, HM22.out, HM32.out, ⟨fun i => by
      have e1 : valO nilV [] [] i = nilV := by cases i <;> rfl
      have e2 : conO ofS0 i = [] := by cases i <;> rfl
      rw [e1, e2]; exact OutG.nil _ _ _ _ _ _, fun i j g _ q => by
      have e1 : valO nilV [] [] i = nilV := by cases i <;> rfl
      rw [e1] at q; cases q⟩, fun t => rfl⟩
  have HLT : Hid (∀ k, OfL ds.length (ofAll (ds.take k))) := fun k => by
    have h := ofAll_len (ds.take k)
    have hle : (ds.take k).length ≤ ds.length := by rw [List.length_take]; omega
    exact ⟨Nat.le_trans h.mains hle, fun m => Nat.le_trans (h.subs m) hle, fun t => Nat.le_trans (h.refs t) hle, Nat.le_trans h.seen (by omega)⟩
  clear HM12 HM22 HM32 HOW HV
  go_loopw [26, 5] (fun i vM wr => ∃ (k : Nat) (es1 : List (Bs × Value)) (es2 es3 : List (KyP × Value)), k ≤ ds.length ∧ i = .int .i64 k ∧ Hid (OfM bw (B + 1 + 1) (B + 1 + 1 + 1) (B + 1 + 1 + 1 + 1) (ofAll (ds.take k)) wr vM es1 es2 es3) ∧ Hid (Only (fun g => g = B + 1 + 1 ∨ g = B + 1 + 1 + 1 ∨ g = B + 1 + 1 + 1 + 1 ∨ bw ≤ g) w2 wr)) (fun i _ _ => ds.length - (intOf i).toNat)
  case atStart => exact ⟨0, [], [], [], Nat.zero_le _, rfl, HM0.out, Only.of_kept (Kept.refl w2)⟩
  case round =>
    obtain ⟨k, es1, es2, es3, hk, rfl, HMR, HKR⟩ := hrel
    by_cases hlt : k < ds.length
    · obtain ⟨x, hx⟩ : ∃ x, ds[k]? = some x := ⟨_, List.getElem?_eq_getElem hlt⟩
      have HVR := Lib.hid (HR2.out.step (S' := fun g => g < w2.heap.size ∧ g ≠ B + 1 + 1 ∧ g ≠ B + 1 + 1 + 1 ∧ g ≠ B + 1 + 1 + 1 + 1) HKR.out (fun g _ hs q => by have := HBW.out; omega) (fun _ _ q => q))
      have hfit := (HIOK.out x (List.mem_of_getElem? hx)).fit
      obtain ⟨hox1, hox2⟩ := HXW.out x (List.mem_of_getElem? hx)
      have HO1 := Lib.hid hox1
      have HO2 := Lib.hid hox2
      have HT := Lib.hid (ofAll_take hx)
      have HL0 := Lib.hid (HLT.out k)
      obtain ⟨st, HST⟩ : ∃ st, Hid (ofAll (ds.take k) = st) := ⟨_, rfl⟩
      rw [HST.out] at HMR HT HL0
      obtain ⟨g, o, vC, vP, vA, vT, vK, rfl, hgg, hgS, -, -, ⟨d0, d1, d2, d3, d4, d5, d6, d7, d8, d9⟩, -, ⟨hC, iC⟩, ⟨hPP, iP⟩, ⟨hA, iA⟩, hTT, hK⟩ := Lns.at_ HVR.out k x hx
      obtain ⟨kind, text, dest, title, id, cls, prs, args, cits, kids⟩ := x
      simp only [Inl.kind, Inl.text, Inl.dest, Inl.title, Inl.id, Inl.cls, Inl.prs, Inl.args, Inl.cits, Inl.kids] at d0 d1 d2 d3 d4 hC hPP hA hTT hK hfit HO1 HO2
      obtain ⟨⟨f1, f2, f3, f4, f5, f6, f7, f8, f9⟩, f10⟩ := hfit
      obtain ⟨aC, cC, rfl, lC⟩ := hC.shape
      obtain ⟨aP, cP, rfl, lP⟩ := hPP.shape
      obtain ⟨aA, cA, rfl, lA⟩ := hA.shape
      obtain ⟨aT, cT, rfl, lT⟩ := hTT.form
      obtain ⟨aK, cK, rfl, lK⟩ := hK.form
      have hwr : Kept w wr := HK2.out.trans' (HKR.out.below (show w.heap.size ≤ w2.heap.size from HK2.out.size) (fun i q => by have := HBB.out; have := HB2.out; have := HBW.out; omega))
      have HIB : Hid (bw ≤ wr.heap.size) := by have h1 := HKR.out.size; have h2 := HBW.out; show bw ≤ _; omega
      have hka := kept_alloc wr (.cells #[.int .i64 kind, .string (bs text), .string (bs dest), .string (bs title), .string (bs id), .slice aC cls.length cC, .slice aP prs.length cP, .slice aA args.length cA, .slice aT cits.length cT, .slice aK kids.length cK] 51)
      have HI3 := Lib.hid (Blk.new wr 51 #[.int .i64 kind, .string (bs text), .string (bs dest), .string (bs title), .string (bs id), .slice aC cls.length cC, .slice aP prs.length cP, .slice aA args.length cA, .slice aT cits.length cT, .slice aK kids.length cK])
      have HM3 := Lib.hid (HMR.out.kept hka)
      have HK3 := Lib.hid (HKR.out.trans (Only.of_kept hka))
      have HTM := Lib.hid (termof_any N kind text dest title id cls prs args cits kids (.slice aC cls.length cC) (.slice aP prs.length cP) (.slice aA args.length cA) (.slice aT cits.length cT) (.slice aK kids.length cK) (wr.alloc (.cells #[.int .i64 kind, .string (bs text), .string (bs dest), .string (bs title), .string (bs id), .slice aC cls.length cC, .slice aP prs.length cP, .slice aA args.length cA, .slice aT cits.length cT, .slice aK kids.length cK] 51)) (HG.out.kept (hwr.trans hka)) (hC.kept hka) (hPP.kept hka) rfl rfl (hK.kept hka) (by omega) (by omega) (by omega) f10 HO1.out HO2.out)
      unfold TermP at HTM
      have HSTP : Hid (ofStep st (.mk kind text dest title id cls prs args cits kids) = match okM (.mk kind text dest title id cls prs args cits kids) with | true => subStep (mainStep (refStep st (mainI (.mk kind text dest title id cls prs args cits kids), subI (.mk kind text dest title id cls prs args cits kids)) id) (mainI (.mk kind text dest title id cls prs args cits kids))) (mainI (.mk kind text dest title id cls prs args cits kids)) (subI (.mk kind text dest title id cls prs args cits kids)) | false => st) := rfl
      rw [HSTP.out] at HT
      generalize mainI (Inl.mk kind text dest title id cls prs args cits kids) = m at *
      generalize subI (Inl.mk kind text dest title id cls prs args cits kids) = s at *
      obtain ⟨ok, HOKB⟩ : ∃ ok, Hid (okM (Inl.mk kind text dest title id cls prs args cits kids) = ok) := ⟨_, rfl⟩
      rw [HOKB.out] at HTM HT
      obtain ⟨I, HII⟩ : ∃ I, Hid (wr.heap.size = I) := ⟨_, rfl⟩
      clear hC iC hPP iP hA iA hTT hK hx HVR hox1 hox2 HO1 HO2 f10 hwr hka HMR HKR HSTP HOKB HST
      go_wp2_with fail
      rw [HII.out] at HI3 ⊢
      generalize wr.alloc _ = w3 at *
      clear d0 d1 d2 d3 d4 d5 d6 d7 d8 d9
      refine HTM.out.mono ?_
      rintro e w4 ⟨rfl, hk4⟩
      have hkb := kept_alloc w4 (.cells #[.string (bs m), .string (bs s)] 62)
      have HT5 := Lib.hid (Blk.new w4 62 #[.string (bs m), .string (bs s)])
      have HI5 := Lib.hid ((HI3.out.kept hk4).kept hkb)
      have HM5 := Lib.hid ((HM3.out.kept hk4).kept hkb)
      have HK5 := Lib.hid (HK3.out.trans (Only.of_kept (hk4.trans hkb)))
      have hIb : bw ≤ I := by have h1 := HIB.out; have h3 := HII.out; omega
      have HKR2 : Hid (bw ≤ w4.heap.size) := by have h1 := HK3.out.size; have h2 := hk4.size; have h3 := HBW.out; show bw ≤ _; omega
      obtain ⟨T1, HT1⟩ : ∃ T1, Hid (w4.heap.size = T1) := ⟨_, rfl⟩
      clear hk4 hkb HI3 HM3 HK3 HTM
      have i4 : (w4.alloc (.cells #[.string (bs m), .string (bs s)] 62)).cell? ⟨I, 4, none⟩ = some (.string (bs id)) := HI5.out.cell 4 _ rfl
      have iz := HI5.out.lt
      cases ok with
      | false =>
        have HN : Hid (ofAll (ds.take (k + 1)) = st) := HT.out
        rw [← HN.out] at HM5
        go_wp2_with fail
        go_roundw
        case rel => exact ⟨k + 1, es1, es2, es3, by omega, by go_num, HM5.out, HK5.out⟩
        case measure => simp [intOf]; omega
      | true =>
        go_upto_region 10 with fail
        rw [HT1.out] at HT5 ⊢
        have hTb : bw ≤ T1 := by have := HKR2.out; have := HT1.out; omega
        generalize w4.alloc _ = w5 at *
        have x0 : w5.cell? ⟨T1, 0, none⟩ = some (.string (bs m)) := HT5.out.cell 0 _ rfl
        have x1 : w5.cell? ⟨T1, 1, none⟩ = some (.string (bs s)) := HT5.out.cell 1 _ rfl
        have xz := HT5.out.lt
        have hT0 : ofAll (ds.take (k + 1)) = subStep (mainStep (refStep st (m, s) id) m) m s := HT.out
        have HTT := Lib.hid hT0
        clear hT0 HT
        go_upto_if 40 with fail
        go_cut [26] from 26 to 87 (fun i wr => i = .int .i64 (k : Nat) ∧ ∃ es2', Hid (OfM bw (B + 1 + 1) (B + 1 + 1 + 1) (B + 1 + 1 + 1 + 1) (refStep st (m, s) id) wr u5 es1 es2' es3) ∧ Hid (Only (fun g => g = B + 1 + 1 ∨ g = B + 1 + 1 + 1 ∨ g = B + 1 + 1 + 1 + 1 ∨ bw ≤ g) w2 wr) ∧ Hid (Blk wr T1 62 #[.string (bs m), .string (bs s)]))
        case first =>
          by_cases hid : id = []
          · subst hid
            have hrs : refStep st (m, s) [] = st := by unfold refStep; rw [if_pos rfl]
            rw [← hrs] at HM5
            clear hrs
            go_wp2_with fail
            go_meet
            case rel => exact ⟨rfl, es2, HM5, HK5, HT5⟩
          · have hidb : id.isEmpty = false := by rw [List.isEmpty_eq_false_iff]; exact hid
            simp only [hidb, Bool.not_false]
            clear hidb
            have hkc := kept_alloc w5 (.cells #[.string (bs id)] 9)
            have HM6 := Lib.hid (HM5.out.kept hkc)
            have hbw6 : bw ≤ w5.heap.size := by omega
            obtain ⟨es2', n2, hn2, hset, hget, em⟩ := entryQ HH2.out _ (B + 1 + 1 + 1) es2 (m, s) nilV zero_strs HM6.out.m2
            have hrow6 : OutG StrK 1 (fun _ => False) bw 9 (w5.alloc (.cells #[.string (bs id)] 9)) ((getQ es2 (m, s)).getD nilV) (st.refs (m, s)) := HM6.out.fam.row (.ref (m, s))
            obtain ⟨ar, cr, hv0, hcr, hmr⟩ := hrow6.form
            rw [hv0] at hrow6 em hn2
            change Sem.run _ (Instr.mapEntry _ _ (.agg #[.string (bs m), .string (bs s)])) _ = _ at em
            have HV0 := Lib.hid hv0
            have hoq := putQ_only (w5.alloc (.cells #[.string (bs id)] 9)) (B + 1 + 1 + 1) es2'
            have HHB := HB2.out
            have HHW := HBW.out
            have HGQ := Lib.hid (hrow6.only strK hoq (fun _ _ h => h.elim) (fun g q r => by have := (hrow6.blk g q).1; omega))
            have HROWQ : Hid (Blk (putQ (w5.alloc (.cells #[.string (bs id)] 9)) (B + 1 + 1 + 1) es2') w5.heap.size 9 #[.string (bs id)]) := (Blk.new w5 9 #[.string (bs id)]).onl hoq (by omega)
            have HTQ := Lib.hid ((HT5.out.kept hkc).onl hoq (by omega))
            have HMQ := Lib.hid (putQ_map (w5.alloc (.cells #[.string (bs id)] 9)) (B + 1 + 1 + 1) es2' HM6.out.m2.lt)
            have HOQ := Lib.hid hoq
            have HN2 := Lib.hid hn2
            have HSET := Lib.hid hset
            have HGET := Lib.hid hget
            have hbq : bw ≤ (putQ (w5.alloc (.cells #[.string (bs id)] 9)) (B + 1 + 1 + 1) es2').heap.size := Nat.le_trans (Nat.le_trans hbw6 hkc.size) hoq.size
            have hrl : (st.refs (m, s)).length ≤ 500 := Nat.le_trans (HL0.out.refs (m, s)) hni
            have HKC := Lib.hid hkc
            clear hkc hn2 hset hget hrow6 hv0 hoq HM5 HT5
            go_wp2_with (at_builtin; refine holdP ?_)
            refine Lib.hid ?_
            refine wpList_append_out strK rfl (.tmp 43) (.tmp 47) 26 rfl i0 _ 16 Tryz.underlying26 hi hz0 hz1 hz2 rfl (by omega) (by rfl) HGQ.out w5.heap.size [.string (bs id)] id (by rfl) (fun j u hu => HROWQ.out.cell j u (by rw [← Array.getElem?_toList]; exact hu)) rfl rfl (by unfold maxLen; omega) (by omega) hbq _ rfl ?_
            intro g7 c7' w7 hout7 hgrow7 hat7 hlt7
            have HGROW := Lib.hid hgrow7
            have HAT := Lib.hid hat7
            have HOUT7 := Lib.hid hout7
            have hm7 := HMQ.out.only (Only.grown hgrow7) (fun q => by have := (HGQ.out.blk _ q.symm).1; omega)
            have st7 := storeQ (P := Tryz.prog) (tm := 58) w7 (B + 1 + 1 + 1) es2' n2 (m, s) _ (.slice (some ⟨g7, 0, none⟩) ((st.refs (m, s)).length + 1) c7') hm7 HN2.out
            clear hgrow7 hat7 hout7
            have HM8 : Hid (OfM bw (B + 1 + 1) (B + 1 + 1 + 1) (B + 1 + 1 + 1 + 1) (refStep st (m, s) id) (putQ w7 (B + 1 + 1 + 1) (es2'.set n2 ((m, s), .slice (some ⟨g7, 0, none⟩) ((st.refs (m, s)).length + 1) c7'))) u5 es1 (es2'.set n2 ((m, s), .slice (some ⟨g7, 0, none⟩) ((st.refs (m, s)).length + 1) c7')) es3) :=
              OfM.ref2 HM6.out (by omega) (by omega) (by omega) (by omega) (by omega) (m, s) id hid HV0.out HOUT7.out HGROW.out (fun g q => by cases q; exact HAT.out) HGET.out HSET.out hm7.lt
            have hg7 := Only.grown HGROW.out
            have ho8 := putQ_only w7 (B + 1 + 1 + 1) (es2'.set n2 ((m, s), .slice (some ⟨g7, 0, none⟩) ((st.refs (m, s)).length + 1) c7'))
            have HT8 := Lib.hid ((HTQ.out.onl hg7 (fun q => OutG.ne_blk HGQ.out HTQ.out (by decide) q.symm)).onl ho8 (by omega))
            have HK8 : Hid (Only (fun g => g = B + 1 + 1 ∨ g = B + 1 + 1 + 1 ∨ g = B + 1 + 1 + 1 + 1 ∨ bw ≤ g) w2 (putQ w7 (B + 1 + 1 + 1) (es2'.set n2 ((m, s), .slice (some ⟨g7, 0, none⟩) ((st.refs (m, s)).length + 1) c7')))) := (((HK5.out.trans (Only.of_kept HKC.out)).trans (HOQ.out.mono (fun i _ q => .inr (.inl q)))).trans (hg7.mono (fun i _ q => .inr (.inr (.inr (HGQ.out.blk i q.symm).1))))).trans (ho8.mono (fun i _ q => .inr (.inl q)))
            clear hg7 ho8 HOUT7 HGROW HAT HGQ HROWQ HTQ HMQ HOQ HN2 HSET HGET hbq hrl HKC HM6 HK5 HI5 em
            go_wp2_with fail
            go_meet
            case rel => exact ⟨rfl, _, HM8, HK8, HT8⟩
        case rest =>
          obtain ⟨rfl, es2', HM6, HK6, HT6⟩ := hcut
          clear HM5 HK5 HT5 HI5 es2 i4 iz x0 x1 xz
          have HLM : Hid ((refStep st (m, s) id).mains.length ≤ 500 ∧ ∀ m', ((refStep st (m, s) id).subs m').length ≤ 500) := by
            obtain ⟨e1, e2, -⟩ := refStep_mains st (m, s) id
            exact ⟨by rw [e1]; exact Nat.le_trans HL0.out.mains hni, fun m' => by rw [e2]; exact Nat.le_trans (HL0.out.subs m') hni⟩
          generalize refStep st (m, s) id = st1 at *
          have hkd := kept_alloc wc (.cells #[.string (bs m), .string (bs [])] 62)
          have HM7 := Lib.hid (HM6.out.kept hkd)
          have HT7 := Lib.hid (HT6.out.kept hkd)
          have HS7 := Lib.hid (Blk.new wc 62 #[.string (bs m), .string (bs [])])
          have HK7 := Lib.hid (HK6.out.trans (Only.of_kept hkd))
          have HBB7 : Hid (bw ≤ wc.heap.size) := by have h1 := HK6.out.size; have h2 := HBW.out; show bw ≤ _; omega
          obtain ⟨T2, HT2⟩ : ∃ T2, Hid (wc.heap.size = T2) := ⟨_, rfl⟩
          have x0 := HT6.out.cell 0 _ rfl
          have xz := HT6.out.lt
          clear hkd HM6 HK6 HL0
          go_upto_region 13 with fail
          rw [HT2.out] at HS7 ⊢
          have h2b : bw ≤ T2 := by have h1 := HBB7.out; have h2 := HT2.out; omega
          have hT12 : T1 < T2 := by have h1 := HT6.out.lt; have h2 := HT2.out; omega
          generalize wc.alloc _ = w7 at *
          clear HT6 x0 xz HBB7 HT2
          have x0 := HT7.out.cell 0 _ rfl
          have x1 := HT7.out.cell 1 _ rfl
          have y0 := HS7.out.cell 0 _ rfl
          have y1 := HS7.out.cell 1 _ rfl
          have xz := HT7.out.lt
          have yz := HS7.out.lt
          have lk : (Instr.lookup 59 (.map (some (B + 1 + 1 + 1 + 1))) (.agg #[.string (bs m), .string (bs [])]) false).run Tryz.prog w7 = .ok (.bool (st1.seen.contains (m, []))) w7 := by
            have h := lookQ HH3.out w7 (B + 1 + 1 + 1 + 1) es3 (m, []) (.bool false) (zero_bl w7) HM7.out.m3
            rw [HM7.out.seen] at h; exact h
          obtain ⟨bq, hbq⟩ : ∃ bq, st1.seen.contains (m, []) = bq := ⟨_, rfl⟩
          rw [hbq] at lk
          have HQ := Lib.hid hbq
          clear hbq
          go_upto_if 57 with fail
          go_cut [5, 26] from 26 to 87 (fun vM i wr => i = .int .i64 (k : Nat) ∧ ∃ es3', Hid (OfM bw (B + 1 + 1) (B + 1 + 1 + 1) (B + 1 + 1 + 1 + 1) (mainStep st1 m) wr vM es1 es2' es3') ∧ Hid (Only (fun g => g = B + 1 + 1 ∨ g = B + 1 + 1 + 1 ∨ g = B + 1 + 1 + 1 + 1 ∨ bw ≤ g) w2 wr) ∧ Hid (Blk wr T1 62 #[.string (bs m), .string (bs s)]) ∧ Hid (Blk wr T2 62 #[.string (bs m), .string (bs [])]))
          case first =>
            cases bq with
            | true =>
              have hrs : mainStep st1 m = st1 := by unfold mainStep; rw [if_pos HQ.out]
              rw [← hrs] at HM7
              clear hrs
              go_wp2_with fail
              go_meet
              case rel => exact ⟨rfl, es3, HM7, HK7, HT7, HS7⟩
            | false =>
              obtain ⟨es3', hq3, mu⟩ := putQ_any HH3.out w7 (B + 1 + 1 + 1 + 1) es3 (m, []) (.bool true) HM7.out.m3
              change Sem.run _ (Instr.mapUpdate _ _ (.agg #[.string (bs m), .string (bs [])]) _) _ = _ at mu
              have HQ3 := Lib.hid hq3
              have hoq := putQ_only w7 (B + 1 + 1 + 1 + 1) es3'
              have HHB := HB2.out
              have HHW := HBW.out
              have hT8 := HT7.out.onl hoq (by omega)
              have hS8 := HS7.out.onl hoq (by omega)
              have z0 := hT8.cell 0 _ rfl
              have zz := hT8.lt
              have hka := kept_alloc (putQ w7 (B + 1 + 1 + 1 + 1) es3') (.cells #[.string (bs m)] 9)
              have HT9 := Lib.hid (hT8.kept hka)
              have HS9 := Lib.hid (hS8.kept hka)
              have hrow : OutG StrK 1 (fun _ => False) bw 9 w7 u5 st1.mains := HM7.out.fam.row .main
              obtain ⟨ar, cr, hv0, hcr, hmr⟩ := hrow.form
              subst hv0
              have HG9 := Lib.hid ((hrow.only strK hoq (fun _ _ h => h.elim) (fun g q r => by have := (hrow.blk g q).1; omega)).kept strK hka)
              have HROW9 := Lib.hid (Blk.new (putQ w7 (B + 1 + 1 + 1 + 1) es3') 9 #[.string (bs m)])
              have HM39 := Lib.hid ((putQ_map w7 (B + 1 + 1 + 1 + 1) es3' HM7.out.m3.lt).kept hka)
              have HKA := Lib.hid hka
              have HK9 := Lib.hid ((HK7.out.trans (hoq.mono (fun i _ q => .inr (.inr (.inl q))))).trans (Only.of_kept hka))
              have hb9 : bw ≤ ((putQ w7 (B + 1 + 1 + 1 + 1) es3').alloc (.cells #[.string (bs m)] 9)).heap.size := by have h1 := HK9.out.size; omega
              have hml := HLM.out.1
              clear hq3 hoq hT8 hS8 hka hrow HK7 HT7 HS7 xz yz x0 x1
              have x0 := z0
              clear z0
              go_wp2_with (at_builtin; refine holdP ?_)
              refine Lib.hid ?_
              refine wpList_append_out strK rfl (.tmp 60) (.tmp 63) 26 rfl i0 _ 16 Tryz.underlying26 hi hz0 hz1 hz2 rfl (by omega) (by rfl) HG9.out (putQ w7 (B + 1 + 1 + 1 + 1) es3').heap.size [.string (bs m)] m (by rfl) (fun j u hu => HROW9.out.cell j u (by rw [← Array.getElem?_toList]; exact hu)) rfl rfl (by unfold maxLen; omega) (by omega) hb9 _ rfl ?_
              intro g7 c7' w9 hout7 hgrow7 hat7 hlt7
              have HM8 : Hid (OfM bw (B + 1 + 1) (B + 1 + 1 + 1) (B + 1 + 1 + 1 + 1) (mainStep st1 m) w9 (.slice (some ⟨g7, 0, none⟩) (st1.mains.length + 1) c7') es1 es2' es3') :=
                OfM.main HM7.out (by omega) (by omega) (by omega) (by omega) (by omega) m HQ.out HQ3.out HKA.out HM39.out hout7 hgrow7 (fun g q => by cases q; exact hat7)
              have hg7 := Only.grown hgrow7
              have HTX := Lib.hid (HT9.out.onl hg7 (fun q => OutG.ne_blk HG9.out HT9.out (by decide) q.symm))
              have HSX := Lib.hid (HS9.out.onl hg7 (fun q => OutG.ne_blk HG9.out HS9.out (by decide) q.symm))
              have HKX : Hid (Only (fun g => g = B + 1 + 1 ∨ g = B + 1 + 1 + 1 ∨ g = B + 1 + 1 + 1 + 1 ∨ bw ≤ g) w2 w9) := HK9.out.trans (hg7.mono (fun i _ q => .inr (.inr (.inr (HG9.out.blk i q.symm).1))))
              clear hout7 hgrow7 hat7 hlt7 hg7 HG9 HROW9 HM39 HKA HK9 HQ3 HT9 HS9 hb9 mu x0
              go_wp2_with fail
              go_meet
              case rel => exact ⟨rfl, es3', HM8, HKX, HTX, HSX⟩
          case rest =>
            obtain ⟨rfl, es3', HM9, HK9, HT9, HS9⟩ := hcut
            clear HM7 HK7 HT7 HS7 x0 x1 y0 y1 xz yz lk HQ
            have HL2 : Hid (∀ m', ((mainStep st1 m).subs m').length ≤ 500) := by
              have e : (mainStep st1 m).subs = st1.subs := by
                unfold mainStep; split <;> rfl
              rw [e]; exact HLM.out.2
            generalize mainStep st1 m = st2 at *
            clear HLM
            have x0 := HT9.out.cell 0 _ rfl
            have x1 := HT9.out.cell 1 _ rfl
            have y0 := HS9.out.cell 0 _ rfl
            have y1 := HS9.out.cell 1 _ rfl
            have xz := HT9.out.lt
            have yz := HS9.out.lt
            have ne := neq_tm m s [] wc
            by_cases hs0 : s = []
            · subst hs0
              have HN : Hid (ofAll (ds.take (k + 1)) = st2) := by have h := HTT.out; unfold subStep at h; rw [if_pos rfl] at h; exact h
              rw [← HN.out] at HM9
              rw [show (!(([] : Bs) == [])) = false from rfl] at ne
              go_wp2_with fail
              go_roundw
              case rel => exact ⟨k + 1, es1, es2', es3', by omega, by go_num, HM9, HK9⟩
              case measure => simp [intOf]; omega
            · have hsb : (s == []) = false := by simpa using hs0
              rw [hsb, Bool.not_false] at ne
              clear hsb
              have lk : (Instr.lookup 59 (.map (some (B + 1 + 1 + 1 + 1))) (.agg #[.string (bs m), .string (bs s)]) false).run Tryz.prog wc = .ok (.bool (st2.seen.contains (m, s))) wc := by
                have h := lookQ HH3.out wc (B + 1 + 1 + 1 + 1) es3' (m, s) (.bool false) (zero_bl wc) HM9.out.m3
                rw [HM9.out.seen] at h; exact h
              cases hbq : st2.seen.contains (m, s) with
              | true =>
                rw [hbq] at lk
                have HN : Hid (ofAll (ds.take (k + 1)) = st2) := by have h := HTT.out; unfold subStep at h; rw [if_neg hs0, if_pos hbq] at h; exact h
                rw [← HN.out] at HM9
                have HQ := Lib.hid hbq
                clear hbq
                go_wp2_with fail
                go_roundw
                case rel => exact ⟨k + 1, es1, es2', es3', by omega, by go_num, HM9, HK9⟩
                case measure => simp [intOf]; omega
              | false =>
                rw [hbq] at lk
                have HQ := Lib.hid hbq
                clear hbq
                obtain ⟨es3'', hq3, mu⟩ := putQ_any HH3.out wc (B + 1 + 1 + 1 + 1) es3' (m, s) (.bool true) HM9.out.m3
                change Sem.run _ (Instr.mapUpdate _ _ (.agg #[.string (bs m), .string (bs s)]) _) _ = _ at mu
                have HQ3 := Lib.hid hq3
                clear hq3
                go_upto_region 18 with fail
                have hoq := putQ_only wc (B + 1 + 1 + 1 + 1) es3''
                have HHB := HB2.out
                have HHW := HBW.out
                have hml := HL2.out m
                have hbw8 : bw ≤ wc.heap.size := by have h1 := HK9.out.size; omega
                have hm38 := putQ_map wc (B + 1 + 1 + 1 + 1) es3'' HM9.out.m3.lt
                have hT8 := HT9.out.onl hoq (by omega)
                have hK8 := HK9.out.trans (hoq.mono (fun i _ q => .inr (.inr (.inl q))))
                have hrow : OutG StrK 1 (fun _ => False) bw 9 wc ((getT es1 m).getD nilV) (st2.subs m) := HM9.out.fam.row (.sub m)
                obtain ⟨ar, cr, hv0, hcr, hmr⟩ := hrow.form
                rw [hv0] at hrow
                have hG8 := hrow.only strK hoq (fun _ _ h => h.elim) (fun g q r => by have := (hrow.blk g q).1; omega)
                have hm18 := HM9.out.m1.only hoq (by omega)
                have hz8 := hoq.size
                generalize hw8 : putQ wc (B + 1 + 1 + 1 + 1) es3'' = w8 at *
                have HW8 := Lib.hid hw8
                have hkd := kept_drewN w8 1
                change Kept w8 w8.drew at hkd
                have hka0 := kept_alloc w8 (.cells #[.string (bs s)] 9)
                have hkd0 := kept_drewN (w8.alloc (.cells #[.string (bs s)] 9)) 1
                change Kept _ (w8.alloc (.cells #[.string (bs s)] 9)).drew at hkd0
                have hka := hka0.trans hkd0
                have lk1 := lookT_no Tryz.underlying57 Tryz.underlying9 w8.drew (B + 1 + 1) es1 m nilV (zero_strs _) (hm18.kept hkd)
                have lk2 := lookT_no Tryz.underlying57 Tryz.underlying9 _ (B + 1 + 1) es1 m nilV (zero_strs _) (hm18.kept hka)
                rw [hv0] at lk1 lk2
                have HV0 := Lib.hid hv0
                have hT8d := hT8.kept hkd
                have hTA := hT8.kept hka
                have p0 := hT8d.cell 0 _ rfl
                have p1 := hT8d.cell 1 _ rfl
                have r0 := hTA.cell 0 _ rfl
                have r1 := hTA.cell 1 _ rfl
                have pz := hT8d.lt
                have rz := hTA.lt
                have HTA := Lib.hid hTA
                have HGA := Lib.hid (hG8.kept strK hka)
                have HROWA := Lib.hid ((Blk.new w8 9 #[.string (bs s)]).kept hkd0)
                have HMA := Lib.hid (hm18.kept hka)
                have HM3A := Lib.hid (hm38.kept hka)
                have HKK := Lib.hid hka
                have HKA := Lib.hid (hK8.trans (Only.of_kept hka))
                have hba : bw ≤ (w8.alloc (.cells #[.string (bs s)] 9)).drew.heap.size := by have h2 := hka.size; omega
                clear hw8 hkd hka hka0 hkd0 hT8 hT8d hTA hG8 hm18 hm38 hrow hK8 hoq hv0 mu x0 x1 y0 y1 xz yz ne lk HT9 HS9 HK9
                go_region_law (first
                  | (refine step_outS rfl (.tmp 82) (.tmp 85) rfl bw _ _ (by rfl) HGA.out _ s (by rfl) (HROWA.out.cell 0 _ rfl) (by omega) hba ?_; intro g7 c7' w9 hout7 hgrow7 hat7; have hg7 := Only.grown hgrow7; have hm19 := HMA.out.only hg7 (fun q => by have := (HGA.out.blk _ q.symm).1; omega); obtain ⟨es1', hq1, mu1⟩ := putT_any Tryz.underlying57 Tryz.underlying9 w9 (B + 1 + 1) es1 m (.slice (some ⟨g7, 0, none⟩) ((st2.subs m).length + 1) c7') hm19; have hT9 := HTA.out.onl hg7 (fun q => OutG.ne_blk HGA.out HTA.out (by decide) q.symm); have s0 := hT9.cell 0 _ rfl; have s1 := hT9.cell 1 _ rfl; have sz := hT9.lt; have HOUT7 := Lib.hid hout7; have HGROW := Lib.hid hgrow7; have HAT := Lib.hid hat7; have HQ1 := Lib.hid hq1; have HLT1 := Lib.hid hm19.lt; have HG7 := Lib.hid hg7; clear hout7 hgrow7 hat7 hq1 hm19 hg7 hT9))
                all_goals
                  have HM10 : Hid (OfM bw (B + 1 + 1) (B + 1 + 1 + 1) (B + 1 + 1 + 1 + 1) (ofAll (ds.take (k + 1))) (putT w9 (B + 1 + 1) es1') u5 es1' es2' es3'') := by
                    rw [HTT.out]
                    exact OfM.sub HM9.out (by omega) (by omega) (by omega) (by omega) (by omega) (by omega) m s hs0 HQ.out HQ3.out (by rw [HW8.out]; exact HKK.out) HM3A.out HOUT7.out (by rw [HV0.out]; exact HGROW.out) (by rw [HV0.out]; exact fun g q => by cases q; exact HAT.out) HQ1.out rfl (putT_map _ _ _ HLT1.out)
                  have HK10 : Hid (Only (fun g => g = B + 1 + 1 ∨ g = B + 1 + 1 + 1 ∨ g = B + 1 + 1 + 1 + 1 ∨ bw ≤ g) w2 (putT w9 (B + 1 + 1) es1')) := (HKA.out.trans (HG7.out.mono (fun i _ q => .inr (.inr (.inr (HGA.out.blk i q.symm).1))))).trans ((putT_only w9 (B + 1 + 1) es1').mono (fun i _ q => .inl q))
                  clear HM9 HKA HGA HG7 HOUT7 HGROW HAT HQ1 HLT1 HM3A HMA HTA HROWA HKK HW8 HV0 s0 s1 sz p0 p1 r0 r1 pz rz lk1 lk2 mu1 HQ3 HQ hs0 HII HTT HM0
                  go_wp2_with fail
                  go_roundw
                  case rel => exact ⟨k + 1, es1', es2', es3'', by omega, by go_num, HM10, HK10⟩
                  case measure => simp [intOf]; omega
    · obtain rfl : k = ds.length := by omega
      rw [List.take_length, HSTF.out] at HMR
      have HHB := HB2.out
      have HHW := HBW.out
      have HWR : Hid (Kept w wr) := HK2.out.trans' (HKR.out.below (show w.heap.size ≤ w2.heap.size from HK2.out.size) (fun i q => by have := HBB.out; omega))
      have HC3 := Lib.hid (HC2.out.onl HKR.out (by omega))
      have hrow : OutG StrK 1 (fun _ => False) bw 9 wr u5 stF.mains := HMR.out.fam.row .main
      obtain ⟨aM1, cM1, hv0, hcr, hmr⟩ := hrow.form
      subst hv0
      have hml : stF.mains.length ≤ 500 := Nat.le_trans HBL.out.mains hni
      have c0 : wr.cell? ⟨B + 1, 0, none⟩ = some (.slice aR c.ranks.length cR) := HC3.out.cell 0 _ rfl
      have c1 : wr.cell? ⟨B + 1, 1, none⟩ = some (.slice aO c.order.length cO) := HC3.out.cell 1 _ rfl
      have c2' : wr.cell? ⟨B + 1, 2, none⟩ = some (.string (bs c.ignore)) := HC3.out.cell 2 _ rfl
      have cz := HC3.out.lt
      have HSO := Lib.hid (isorted_any (.slice aR c.ranks.length cR) (.slice aO c.order.length cO) (.slice aM1 stF.mains.length cM1) c stF.mains wr (HCO.out.kept HWR.out) (Strs.outG hrow) HSM.out (by omega) HBS.out.1)
      have hbw3 : bw ≤ wr.heap.size := by have := HKR.out.size; omega
      clear hrow
      go_wp2_with fail
      refine HSO.out.mono ?_
      rintro e w6 ⟨v6, rfl, hS6, -, hk6⟩
      obtain ⟨a6, c6, rfl, l6⟩ := hS6.form
      have HS6 := Lib.hid hS6
      have HM6 := Lib.hid (HMR.out.kept hk6)
      have HC6 := Lib.hid (HC3.out.kept hk6)
      have HWK6 := Lib.hid (HWR.out.trans hk6)
      have hbw6 : bw ≤ w6.heap.size := Nat.le_trans hbw3 hk6.size
      have HLS := Lib.hid (sortT_len c stF.mains)
      obtain ⟨ms, HMS⟩ : ∃ ms, Hid (sortT c stF.mains = ms) := ⟨_, rfl⟩
      have HEN : Hid (entsIx c stF = ms.flatMap (mainE c stF)) := by show _ = _; unfold entsIx; rw [HMS.out]
      rw [HMS.out] at HS6 HLS l6 ⊢
      have hms : ms.length ≤ 500 := by have := HLS.out; omega
      obtain ⟨bE, HBE⟩ : ∃ bE, Hid (w6.heap.size = bE) := ⟨_, rfl⟩
      have hbE : bw ≤ bE := by have := HBE.out; omega
      have HLE : Hid (∀ k, ((ms.take k).flatMap (mainE c stF)).length ≤ 250500) := by
        intro k
        have h1 : ∀ l : List Bs, (l.flatMap (mainE c stF)).length ≤ 501 * l.length := by
          intro l
          induction l with
          | nil => simp
          | cons x l ih =>
            have h2 : (mainE c stF x).length ≤ 501 := by
              have h3 := sortT_len c (stF.subs x)
              have h4 := Nat.le_trans (HBL.out.subs x) hni
              unfold mainE; rw [List.length_cons, List.length_map]; omega
            rw [List.flatMap_cons, List.length_append, List.length_cons]; omega
        have h2 := h1 (ms.take k)
        have h3 : (ms.take k).length ≤ ms.length := by rw [List.length_take]; omega
        omega
      clear hS6 hk6 HSO HMR HKR HC3 c0 c1 c2' cz HWR hcr hmr
      go_wp2_with fail
      go_loopw [92, 14] (fun i vE wr => ∃ (k2 : Nat), k2 ≤ ms.length ∧ i = .int .i64 k2 ∧ Hid (OutG EntK 5 (fun g => bw ≤ g ∧ g < bE) bE 44 wr vE ((ms.take k2).flatMap (mainE c stF))) ∧ Hid (Only (fun g => bE ≤ g) w6 wr)) (fun i _ _ => ms.length - (intOf i).toNat)
      case atStart => exact ⟨0, Nat.zero_le _, rfl, OutG.nil _ _ _ _ _ _, Only.of_kept (Kept.refl w6)⟩
      case round =>
        obtain ⟨k2, hk2, rfl, HOE, HKE⟩ := hrel
        by_cases hlt2 : k2 < ms.length
        · obtain ⟨m, hm⟩ : ∃ m, ms[k2]? = some m := ⟨_, List.getElem?_eq_getElem hlt2⟩
          have HT : Hid ((ms.take (k2 + 1)).flatMap (mainE c stF) = (ms.take k2).flatMap (mainE c stF) ++ ⟨1, m, stF.refs (m, [])⟩ :: (sortT c (stF.subs m)).map fun s => ⟨2, s, stF.refs (m, s)⟩) := by
            show _ = _
            rw [take_snoc hm, List.flatMap_append, List.flatMap_cons, List.flatMap_nil, List.append_nil]; rfl
          have hlk := HLE.out k2
          obtain ⟨es, HES⟩ : ∃ es, Hid ((ms.take k2).flatMap (mainE c stF) = es) := ⟨_, rfl⟩
          rw [HES.out] at HT HOE hlk
          have HHE := HBE.out
          have hfr : Fam bw wr (valO (.slice aM1 stF.mains.length cM1) es1 es2) (conO stF) := HM6.out.fam.only HKE.out (fun g q => .inr (by omega))
          have HFR := Lib.hid hfr
          have hm2 := HM6.out.m2.only HKE.out (by omega)
          have hm1 := HM6.out.m1.only HKE.out (by omega)
          have HMM2 := Lib.hid hm2
          have HMM1 := Lib.hid hm1
          have hrow : OutG StrK 1 (fun _ => False) bw 9 wr ((getQ es2 (m, [])).getD nilV) (stF.refs (m, [])) := hfr.row (.ref (m, []))
          obtain ⟨ar, cr, hv0, hcr, hmr⟩ := hrow.form
          have lk1 := lookQ HH2.out wr (B + 1 + 1 + 1) es2 (m, []) nilV (zero_strs _) hm2
          change Sem.run _ (Instr.lookup _ _ (.agg #[.string (bs m), .string (bs [])]) _) _ = _ at lk1
          rw [hv0] at lk1 hrow
          obtain ⟨g6, o6, rfl, hg6, d6, -, -⟩ := (HS6.out.onlS HS6.out.ltB HKE.out (fun g _ hs q => by omega)).cell_of k2 m hm
          have hka := kept_alloc wr (.cells #[.int .i64 1, .string (bs []), .string (bs m), .slice none 0 0, .slice ar (stF.refs (m, [])).length cr] 44)
          obtain ⟨av, cv, rfl, hcv, hmv⟩ := HOE.out.form
          have HOA := Lib.hid (HOE.out.kept entKR hka)
          have HROW := Lib.hid (Blk.new wr 44 #[.int .i64 1, .string (bs []), .string (bs m), .slice none 0 0, .slice ar (stF.refs (m, [])).length cr])
          have hka' := hka.size
          have hba : bE ≤ (wr.alloc (.cells #[.int .i64 1, .string (bs []), .string (bs m), .slice none 0 0, .slice ar (stF.refs (m, [])).length cr] 44)).heap.size := by have h1 := HKE.out.size; omega
          have HRA := Lib.hid (hrow.kept strK hka)
          have HKA := Lib.hid (HKE.out.trans (Only.of_kept hka))
          have HLTR : Hid (∀ k g, ((getQ es2 k).getD nilV).ownBlock = some g → g < bE) := fun k g q => by have h := ((HM6.out.fam.row (.ref k)).blk g q).2; omega
          have HY := Lib.hid (entK_mk (n := 1) (t := m) (vE := .slice av es.length cv) HRA.out (fun g q => by rw [← hv0] at q; exact HLTR.out _ g q) (fun g q => (HOA.out.blk g q).1))
          clear hfr hm2 hm1 hv0 hka hka' HOE hrow hm
          go_wp2_with (at_builtin; refine holdP ?_)
          refine Lib.hid ?_
          refine wpList_append_out entKR rfl (.tmp 96) (.tmp 103) 41 rfl j0 _ 88 Tryz.underlying41 hj hy0 hy1 hy2 rfl (by omega) (by rfl) HOA.out wr.heap.size [.int .i64 1, .string (bs []), .string (bs m), .slice none 0 0, .slice ar (stF.refs (m, [])).length cr] ⟨1, m, stF.refs (m, [])⟩ (by rfl) (fun j u hu => HROW.out.cell j u (by rw [← Array.getElem?_toList]; exact hu)) rfl HY.out (by unfold maxLen; omega) (by omega) hba _ rfl ?_
          intro g7 c7' w7 hout7 hgrow7 hat7 hlt7
          have HO7 := Lib.hid hout7
          have HK7 : Hid (Only (fun g => bE ≤ g) w6 w7) := HKA.out.trans ((Only.grown hgrow7).mono (fun i _ q => (HOA.out.blk i q.symm).1))
          have HW7 : Hid (Kept w w7) := HWK6.out.trans' (HK7.out.below HWK6.out.size (fun i q => by have := HWK6.out.size; omega))
          have HC7 := Lib.hid (HC6.out.onl HK7.out (by omega))
          clear hout7 hgrow7 hat7 HROW HY HOA HRA HKA HKE HFR HMM2 HMM1 lk1 d6 hba hcr hmr
          have c0 : w7.cell? ⟨B + 1, 0, none⟩ = some (.slice aR c.ranks.length cR) := HC7.out.cell 0 _ rfl
          have c1 : w7.cell? ⟨B + 1, 1, none⟩ = some (.slice aO c.order.length cO) := HC7.out.cell 1 _ rfl
          have c2' : w7.cell? ⟨B + 1, 2, none⟩ = some (.string (bs c.ignore)) := HC7.out.cell 2 _ rfl
          have cz := HC7.out.lt
          have hfr : Fam bw w7 (valO (.slice aM1 stF.mains.length cM1) es1 es2) (conO stF) := HM6.out.fam.only HK7.out (fun g q => .inr (by omega))
          have hrow : OutG StrK 1 (fun _ => False) bw 9 w7 ((getT es1 m).getD nilV) (stF.subs m) := hfr.row (.sub m)
          obtain ⟨ar, cr, hv0, hcr, hmr⟩ := hrow.form
          have lk1 := lookT_no Tryz.underlying57 Tryz.underlying9 w7 (B + 1 + 1) es1 m nilV (zero_strs _) (HM6.out.m1.only HK7.out (by omega))
          rw [hv0] at lk1 hrow
          have hsl : (stF.subs m).length ≤ 500 := Nat.le_trans (HBL.out.subs m) hni
          have HSO := Lib.hid (isorted_any (.slice aR c.ranks.length cR) (.slice aO c.order.length cO) (.slice ar (stF.subs m).length cr) c (stF.subs m) w7 (HCO.out.kept HW7.out) (Strs.outG hrow) HSM.out (by omega) (HBS.out.2 m))
          have HLS2 := Lib.hid (sortT_len c (stF.subs m))
          clear hfr hrow hv0
          go_wp2_with fail
          refine HSO.out.mono ?_
          rintro e w8 ⟨v8, rfl, hS8, hI8, hk8⟩
          obtain ⟨a8, c8, rfl, l8⟩ := hS8.form
          have HS8 := Lib.hid hS8
          obtain ⟨H7, HH7⟩ : ∃ H7, Hid (w7.heap.size = H7) := ⟨_, rfl⟩
          obtain ⟨H8, HH8⟩ : ∃ H8, Hid (w8.heap.size = H8) := ⟨_, rfl⟩
          have HIB8 : Hid (InB (fun g => H7 ≤ g ∧ g < H8) (.slice a8 (sortT c (stF.subs m)).length c8) (sortT c (stF.subs m)).length) := fun q g hg => by
            have h1 := hI8 q g hg
            have h2 := hS8.ltB q g hg
            have h3 := HH7.out
            have h4 := HH8.out
            constructor <;> omega
          have hg7 : g7 < H7 := by have := HH7.out; omega
          have h78 : H7 ≤ H8 := by have h3 := HH7.out; have h4 := HH8.out; have := hk8.size; omega
          have hb7 : bE ≤ H7 := by have h3 := HH7.out; have h4 := HK7.out.size; omega
          have HO8 := Lib.hid (HO7.out.kept entKR hk8)
          have HK8 := Lib.hid (HK7.out.trans (Only.of_kept hk8))
          have hz8 := hk8.size
          clear hS8 hk8 HSO HK7 HO7 HC7 HW7 c0 c1 c2' cz lk1 hcr hmr
          obtain ⟨ss, HSS⟩ : ∃ ss, Hid (sortT c (stF.subs m) = ss) := ⟨_, rfl⟩
          rw [HSS.out] at HS8 HLS2 l8 HT ⊢
          have hss : ss.length ≤ 500 := by have := HLS2.out; omega
          rw [HSS.out] at HIB8
          clear hlt7 hz8 hI8
          go_wp2_with fail
          have HO8' : Hid (OutG EntK 5 (fun g => bw ≤ g ∧ g < bE) bE 44 w8 (.slice (some ⟨g7, 0, none⟩) (es.length + 1) c7') (es ++ ⟨1, m, stF.refs (m, [])⟩ :: ((ss.take 0).map fun s => ⟨2, s, stF.refs (m, s)⟩))) := HO8.out
          clear HO8
          go_loopw [111, 14] (fun i vE wr => ∃ (k3 : Nat), k3 ≤ ss.length ∧ i = .int .i64 k3 ∧ Hid (OutG EntK 5 (fun g => bw ≤ g ∧ g < bE) bE 44 wr vE (es ++ ⟨1, m, stF.refs (m, [])⟩ :: ((ss.take k3).map fun s => ⟨2, s, stF.refs (m, s)⟩))) ∧ Hid (Only (fun g => bE ≤ g ∧ (g < H7 ∨ H8 ≤ g)) w8 wr) ∧ Hid (∀ g, vE.ownBlock = some g → g < H7 ∨ H8 ≤ g)) (fun i _ _ => ss.length - (intOf i).toNat)
          case atStart => exact ⟨0, Nat.zero_le _, rfl, HO8'.out, Only.of_kept (Kept.refl w8), fun g q => by cases q; exact .inl hg7⟩
          case round =>
            obtain ⟨k3, hk3, rfl, HOE, HKE, HGX⟩ := hrel
            have HKW : Hid (Only (fun g => bE ≤ g) w6 wr) := HK8.out.trans (HKE.out.mono (fun i _ q => q.1))
            by_cases hlt3 : k3 < ss.length
            · obtain ⟨s, hs⟩ : ∃ s, ss[k3]? = some s := ⟨_, List.getElem?_eq_getElem hlt3⟩
              have HT3 : Hid (es ++ ⟨1, m, stF.refs (m, [])⟩ :: ((ss.take (k3 + 1)).map fun s => ⟨2, s, stF.refs (m, s)⟩) = (es ++ ⟨1, m, stF.refs (m, [])⟩ :: ((ss.take k3).map fun s => ⟨2, s, stF.refs (m, s)⟩)) ++ [(⟨2, s, stF.refs (m, s)⟩ : Ent)]) := by
                show _ = _
                rw [take_snoc hs, List.map_append, List.append_assoc, List.cons_append]; rfl
              have hl3 : (es ++ ⟨1, m, stF.refs (m, [])⟩ :: ((ss.take k3).map fun s => (⟨2, s, stF.refs (m, s)⟩ : Ent))).length ≤ 251002 := by
                rw [List.length_append, List.length_cons, List.length_map, List.length_take]; omega
              have HT3' := Lib.hid HT3.out
              obtain ⟨fs, HFS⟩ : ∃ fs, Hid ((es ++ ⟨1, m, stF.refs (m, [])⟩ :: ((ss.take k3).map fun s => (⟨2, s, stF.refs (m, s)⟩ : Ent))) = fs) := ⟨_, rfl⟩
              rw [HFS.out] at HT3' HOE hl3
              have hfr : Fam bw wr (valO (.slice aM1 stF.mains.length cM1) es1 es2) (conO stF) := HM6.out.fam.only HKW.out (fun g q => .inr (by omega))
              have hm2 := HM6.out.m2.only HKW.out (by omega)
              have hrow : OutG StrK 1 (fun _ => False) bw 9 wr ((getQ es2 (m, s)).getD nilV) (stF.refs (m, s)) := hfr.row (.ref (m, s))
              obtain ⟨ar, cr, hv0, hcr, hmr⟩ := hrow.form
              have lk1 := lookQ HH2.out wr (B + 1 + 1 + 1) es2 (m, s) nilV (zero_strs _) hm2
              change Sem.run _ (Instr.lookup _ _ (.agg #[.string (bs m), .string (bs s)]) _) _ = _ at lk1
              rw [hv0] at lk1 hrow
              obtain ⟨g8, o8, rfl, hg8, d8, -, -⟩ := (HS8.out.onlS HIB8.out HKE.out (fun g _ hs q => by omega)).cell_of k3 s hs
              have hka := kept_alloc wr (.cells #[.int .i64 2, .string (bs []), .string (bs s), .slice none 0 0, .slice ar (stF.refs (m, s)).length cr] 44)
              obtain ⟨av, cv, rfl, hcv, hmv⟩ := HOE.out.form
              have HOA := Lib.hid (HOE.out.kept entKR hka)
              have HROW := Lib.hid (Blk.new wr 44 #[.int .i64 2, .string (bs []), .string (bs s), .slice none 0 0, .slice ar (stF.refs (m, s)).length cr])
              have hka' := hka.size
              have hwr8 : H8 ≤ wr.heap.size := by have h3 := HH8.out; have h4 := HKE.out.size; omega
              have hba : bE ≤ (wr.alloc (.cells #[.int .i64 2, .string (bs []), .string (bs s), .slice none 0 0, .slice ar (stF.refs (m, s)).length cr] 44)).heap.size := by omega
              have HRA := Lib.hid (hrow.kept strK hka)
              have HKA := Lib.hid (HKE.out.trans (Only.of_kept hka))
              have HY := Lib.hid (entK_mk (n := 2) (t := s) (vE := .slice av fs.length cv) HRA.out (fun g q => by rw [← hv0] at q; exact HLTR.out _ g q) (fun g q => (HOA.out.blk g q).1))
              have HHA : Hid (H8 ≤ (wr.alloc (.cells #[.int .i64 2, .string (bs []), .string (bs s), .slice none 0 0, .slice ar (stF.refs (m, s)).length cr] 44)).heap.size) := Nat.le_trans hwr8 hka'
              clear hfr hm2 hv0 hka hka' HOE hrow hs HKE HFS HT3
              go_wp2_with (at_builtin; refine holdP ?_)
              refine Lib.hid ?_
              refine wpList_append_out entKR rfl (.tmp 115) (.tmp 123) 41 rfl j0 _ 88 Tryz.underlying41 hj hy0 hy1 hy2 rfl (by omega) (by rfl) HOA.out wr.heap.size [.int .i64 2, .string (bs []), .string (bs s), .slice none 0 0, .slice ar (stF.refs (m, s)).length cr] ⟨2, s, stF.refs (m, s)⟩ (by rfl) (fun j u hu => HROW.out.cell j u (by rw [← Array.getElem?_toList]; exact hu)) rfl HY.out (by unfold maxLen; omega) (by omega) hba _ rfl ?_
              intro g9 c9' w9 hout9 hgrow9 hat9 hlt9
              have HO9 : Hid (OutG EntK 5 (fun g => bw ≤ g ∧ g < bE) bE 44 w9 (.slice (some ⟨g9, 0, none⟩) (fs.length + 1) c9') (es ++ ⟨1, m, stF.refs (m, [])⟩ :: ((ss.take (k3 + 1)).map fun s => ⟨2, s, stF.refs (m, s)⟩))) := by rw [HT3'.out]; exact hout9
              have HK9 : Hid (Only (fun g => bE ≤ g ∧ (g < H7 ∨ H8 ≤ g)) w8 w9) := HKA.out.trans ((Only.grown hgrow9).mono (fun i _ q => ⟨(HOA.out.blk i q.symm).1, HGX.out i q.symm⟩))
              have HGX9 : Hid (∀ g, (Value.slice (some ⟨g9, 0, none⟩) (fs.length + 1) c9').ownBlock = some g → g < H7 ∨ H8 ≤ g) := fun g q => by
                cases q
                rcases hat9 with r | r
                · exact HGX.out g9 r
                · exact .inr (show H8 ≤ g9 by have := HHA.out; omega)
              clear hout9 hgrow9 hat9 hlt9 HOA HKA HY HROW HRA HGX HHA lk1 d8 hba hcr hmr HT3'
              go_wp2_with fail
              go_roundw
              case rel => exact ⟨k3 + 1, by omega, by go_num, HO9.out, HK9.out, HGX9.out⟩
              case measure => simp [intOf]; omega
            · obtain rfl : k3 = ss.length := by omega
              have HO9 : Hid (OutG EntK 5 (fun g => bw ≤ g ∧ g < bE) bE 44 wr u14 ((ms.take (k2 + 1)).flatMap (mainE c stF))) := by
                have h := HOE.out
                rw [List.take_length] at h
                rw [HT.out]; exact h
              clear HOE HKE HGX
              go_wp2_with fail
              go_roundw
              case rel => exact ⟨k2 + 1, by omega, by go_num, HO9.out, HKW.out⟩
              case measure => simp [intOf]; omega
        · obtain rfl : k2 = ms.length := by omega
          have hF := HFIN.out wr u14 (by
            have h := HOE.out
            rw [List.take_length] at h
            rw [HEN.out]
            exact (h.low hbE).mono entKR (fun g _ q => q.1)) (HWK6.out.trans' (HKE.out.below HWK6.out.size (fun i q => by have := HWK6.out.size; have := HBE.out; omega)))
          have HF : Hid (OfPo (entsIx c (ofAll (inlsL xs))) w (.returned u14) wr) := by
            show OfPo _ _ _ _
            rw [HDS.out, HSTF.out]; exact hF
          clear hF HOE HKE HFIN
          go_wp2_with fail
          (try go_ret)
          exact HF.out
end Go.Proofs.YtnbhpmleboildaaGreatDoor

/- What marking keeps of what the walks ask. No condition. -/
set_option linter.all false
namespace Go.Proofs.YtnbhpmleboildaaGreatDoor
open Go.RowKit

theorem mkd_okWB (used : List Bs) (xs : List Blo) (h : okWB xs) : okWB (mbL used 0 xs).1 := fun y hy => by
  obtain ⟨x, hx, h1, h2, h3, h4, h5⟩ := mbL_mem used _ xs 0 (Nat.le_refl _) y hy
  obtain ⟨k1, k2⟩ := h x hx
  exact ⟨by rw [h4]; exact k1, fun v hv => k2 v (by rw [← h3]; exact hv)⟩
theorem mkd_okS (used : List Bs) (xs : List Blo) (h : okS (inlsL xs)) : okS (inlsL (mbL used 0 xs).1) := fun y hy => by
  obtain ⟨x, hx, hs⟩ := mbL_mem used _ xs 0 (Nat.le_refl _) y hy
  rw [hs.term]; exact h x hx
theorem mkd_ids (used : List Bs) (xs : List Blo) (B : Nat) (hB : 24 ≤ B) (hM : (mbL used 0 xs).2 ≤ 1000000000000000) (h : ∀ x ∈ inlsL xs, x.id.length ≤ B) : ∀ y ∈ inlsL (mbL used 0 xs).1, y.id.length ≤ B := fun y hy => by
  obtain ⟨x, hx, _, _, _, _, h5⟩ := mbL_mem used _ xs 0 (Nat.le_refl _) y hy
  rcases h5 with q | ⟨m, hm, q⟩
  · rw [q]; exact h x hx
  · rw [q]; exact Nat.le_trans (idN_len (Nat.le_trans hm hM)) hB
end Go.Proofs.YtnbhpmleboildaaGreatDoor
