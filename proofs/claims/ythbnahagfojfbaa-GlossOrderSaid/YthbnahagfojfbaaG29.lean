/- The documents of law27, in plain Lean. Conditions: lengths; names that differ. -/
import Derived.Test.YthbnahagfojfbaaG28
import Derived.Test.YthbnahagfojfbaaG23
import Derived.Test.YthbnahagfojfbaaG13
import Derived.Sort.LotA
import Derived.BigQuiet

set_option linter.all false
namespace Go.Proofs.Ythbnahagfojfbaa
open Go.RowKit

def softI : Inl := .mk 2 [] [] [] [] [] [] [] [] []
/-- Uses with ends of lines between them. -/
def usL (ns : List Bs) (z : Bs) : List Inl := ns.flatMap (fun s => [inlU s, softI]) ++ [inlU z]
def otherL (o : Option Bs) : List Blo := match o with | none => [] | some t => [bloP [textI t]]
/-- A glossary: something else, and definitions. -/
def glosL (o : Option Bs) (ts : List (Bs × Bs)) : Blo := bloG (otherL o ++ ts.map fun t => bloT t.1 t.2 (otherL o))
/-- What a document asks so that gloss.Fill may be walked. -/
structure FitD (xs : List Blo) (st : St) (es : List (Bs × Bs)) : Prop where
  hes : (defsL false xs).map entD = es
  hst : svL (-1) false xs ⟨[], [], []⟩ = st
  hl : xs.length ≤ 1000000
  hok : okBL xs
  hot : okTL xs
  hn : (defsL false xs).length ≤ 1000000
  hnp : ∀ d ∈ defsL false xs, d.prs.length ≤ 1000000
  hg : goodD (defsL false xs)
  hil : ∀ e ∈ es, e.2.length ≤ 1000000
  hun : (inlsL xs).length ≤ 1000000
  hux : ∀ x ∈ inlsL xs, okU x
  hos : okSL (-1) false xs ⟨[], [], []⟩
  hnd : st.ns.Nodup
  hnl : st.ns.length ≤ 1000000
  hul : st.us.length ≤ 100000
  hx : ∀ x ∈ st.us, okU x ∧ x.kind = 11
theorem isUse_u (s : Bs) : isUse (inlU s) = true := by unfold isUse inlU Inl.kind Inl.cls; simp
theorem useName_u (s : Bs) : useName (inlU s) = s := by
  show (none : Option Bs).getD (plain1 (textI s) ++ []) = s
  rw [List.append_nil]; rfl
theorem plainU (s : Bs) : plainL (inlU s).kids = s := by
  show plain1 (textI s) ++ [] = s
  rw [List.append_nil]; rfl
theorem okU_u {s : Bs} (h : s.length ≤ 1000000) : okU (inlU s) := by
  refine ⟨⟨⟨?_, ?_, ?_, ?_, ?_, ?_, ?_, ?_, ?_⟩, ⟨⟨?_, ?_, ?_, ?_, ?_, ?_, ?_, ?_, ?_⟩, trivial⟩, trivial⟩, by rw [plainU]; exact h⟩ <;> first | exact h | simp
theorem okU_t {s : Bs} (h : s.length ≤ 1000000) : okU (textI s) := by
  refine ⟨⟨⟨?_, ?_, ?_, ?_, ?_, ?_, ?_, ?_, ?_⟩, trivial⟩, ?_⟩ <;> first | exact h | simp [textI, Inl.kids, plainL]
theorem okU_s : okU softI := by
  refine ⟨⟨⟨?_, ?_, ?_, ?_, ?_, ?_, ?_, ?_, ?_⟩, trivial⟩, ?_⟩ <;> simp [softI, Inl.kids, plainL]
/-- A property of uses, of their texts, of ends of lines: of all inlines of a line of uses. -/
theorem usL_all {p : Inl → Prop} {ns : List Bs} {z : Bs} (hu : ∀ s ∈ ns ++ [z], p (inlU s) ∧ p (textI s)) (hs : p softI) : ∀ x ∈ deepL (usL ns z), p x := by
  have h1 : ∀ l : List Inl, (∀ x ∈ l, ∀ y ∈ deep1 x, p y) → ∀ y ∈ deepL l, p y := by
    intro l
    induction l with
    | nil => intro _ y h; cases h
    | cons a l ih =>
      intro h y hy
      have hy' : y ∈ deep1 a ++ deepL l := hy
      rcases List.mem_append.1 hy' with q | q
      · exact h a (List.mem_cons_self ..) y q
      · exact ih (fun x hx => h x (List.mem_cons_of_mem _ hx)) y q
  have h2 : ∀ s ∈ ns ++ [z], ∀ y ∈ deep1 (inlU s), p y := by
    intro s hs y hy
    have hy' : y ∈ [inlU s, textI s] := hy
    simp only [List.mem_cons, List.not_mem_nil, or_false] at hy'
    rcases hy' with rfl | rfl
    · exact (hu s hs).1
    · exact (hu s hs).2
  refine h1 _ fun x hx y hy => ?_
  unfold usL at hx
  rcases List.mem_append.1 hx with q | q
  · obtain ⟨s, hs', q⟩ := List.mem_flatMap.1 q
    simp only [List.mem_cons, List.not_mem_nil, or_false] at q
    rcases q with rfl | rfl
    · exact h2 s (List.mem_append_left _ hs') y hy
    · have : y ∈ [softI] := hy
      rw [List.mem_singleton] at this; rw [this]; exact hs
  · rw [List.mem_singleton] at q
    subst q
    exact h2 z (by simp) y hy
theorem deepU_len (ns : List Bs) (z : Bs) : (deepL (usL ns z)).length = 3 * ns.length + 2 := by
  unfold usL
  rw [deepL_app, List.length_append]
  have : (deepL (ns.flatMap fun s => [inlU s, softI])).length = 3 * ns.length := by
    induction ns with
    | nil => rfl
    | cons s ns ih =>
      rw [List.flatMap_cons, deepL_app, List.length_append, ih, List.length_cons]
      show 3 + 3 * ns.length = _
      omega
  rw [this]; rfl
theorem usL_len (ns : List Bs) (z : Bs) : (usL ns z).length = 2 * ns.length + 1 := by
  unfold usL
  rw [List.length_append]
  have : (ns.flatMap fun s => [inlU s, softI]).length = 2 * ns.length := by
    induction ns with
    | nil => rfl
    | cons s ns ih => rw [List.flatMap_cons, List.length_append, ih]; show 2 + 2 * ns.length = 2 * (ns.length + 1); omega
  rw [this]; rfl
theorem filtU (ns : List Bs) (z : Bs) : (deepL (usL ns z)).filter isUse = (ns ++ [z]).map inlU := by
  have h1 : ∀ s, (deepL [inlU s, softI]).filter isUse = [inlU s] := fun s => by
    show ([inlU s, textI s, softI] : List Inl).filter isUse = _
    rw [List.filter_cons_of_pos (isUse_u s)]; rfl
  have h2 : (deepL [inlU z]).filter isUse = [inlU z] := by
    show ([inlU z, textI z] : List Inl).filter isUse = _
    rw [List.filter_cons_of_pos (isUse_u z)]; rfl
  unfold usL
  rw [deepL_app, List.filter_append, h2, List.map_append]
  congr 1
  induction ns with
  | nil => rfl
  | cons s ns ih => rw [List.flatMap_cons, deepL_app, List.filter_append, h1, ih]; rfl
theorem usesN_filter : ∀ (l : List Inl) (acc : List Bs), l.foldl useStep acc = (l.filter isUse).foldl useStep acc
  | [], _ => rfl
  | x :: l, acc => by
    rw [List.foldl_cons]
    cases h : isUse x with
    | true => rw [List.filter_cons_of_pos h, List.foldl_cons]; exact usesN_filter l _
    | false =>
      rw [List.filter_cons_of_neg (by rw [h]; decide)]
      have : useStep acc x = acc := by unfold useStep; rw [h]; rfl
      rw [this]; exact usesN_filter l acc
theorem usesU : ∀ (l : List Bs) (acc : List Bs), (acc ++ l).Nodup → (l.map inlU).foldl useStep acc = acc ++ l
  | [], acc, _ => by simp
  | s :: l, acc, h => by
    rw [List.map_cons, List.foldl_cons]
    have hs : s ∉ acc := fun q => by
      have := (List.nodup_append.1 h).2.2 s q s (List.mem_cons_self ..)
      exact this rfl
    have : useStep acc (inlU s) = acc ++ [s] := by
      unfold useStep
      rw [if_pos (isUse_u s), useName_u, if_neg (by simpa using hs)]
    rw [this, usesU l (acc ++ [s]) (by simpa using h)]
    simp
theorem usesN_us {l : List Inl} {ns : List Bs} (h : l.filter isUse = ns.map inlU) (hn : ns.Nodup) : usesN l = ns := by
  unfold usesN
  rw [usesN_filter, h, usesU ns [] (by simpa using hn)]; rfl

/-! The blocks of a glossary -/
theorem defName_t (nm id : Bs) (kids : List Blo) : defName (bloT nm id kids) = nm := by
  show ((getP [(kName, nm)] kName)).getD [] = nm
  rw [getP_cons, if_pos rfl]; rfl
theorem isTm_t (nm id : Bs) (kids : List Blo) : isTm (bloT nm id kids) = true := rfl
theorem isGl_t (nm id : Bs) (kids : List Blo) : isGl (bloT nm id kids) = false := rfl
theorem isTm_p (l : List Inl) : isTm (bloP l) = false := rfl
theorem isGl_p (l : List Inl) : isGl (bloP l) = false := rfl
theorem defs_other (i : Bool) (o : Option Bs) : defsL i (otherL o) = [] := by
  cases o with
  | none => rfl
  | some t => cases i <;> rfl
theorem defs_terms (o : Option Bs) : ∀ ts : List (Bs × Bs), defsL true (ts.map fun t => bloT t.1 t.2 (otherL o)) = ts.map fun t => bloT t.1 t.2 (otherL o)
  | [] => rfl
  | t :: ts => by
    show defs1 true (bloT t.1 t.2 (otherL o)) ++ defsL true (ts.map fun t => bloT t.1 t.2 (otherL o)) = _
    rw [defs_terms o ts, defs1_eq, isTm_t, isGl_t]
    show ([bloT t.1 t.2 (otherL o)] ++ defsL false (otherL o)) ++ _ = _
    rw [defs_other]; rfl
theorem defs_glos (o : Option Bs) (ts : List (Bs × Bs)) : defsL false [glosL o ts] = ts.map fun t => bloT t.1 t.2 (otherL o) := by
  show defs1 false (glosL o ts) ++ [] = _
  rw [List.append_nil, defs1_eq]
  show [] ++ defsL true (otherL o ++ ts.map fun t => bloT t.1 t.2 (otherL o)) = _
  rw [List.nil_append, defsL_app, defs_other, List.nil_append, defs_terms]
theorem inls_other (o : Option Bs) : inlsL (otherL o) = (match o with | none => [] | some t => [textI t]) := by
  cases o with
  | none => rfl
  | some t => rfl
theorem inls_terms (o : Option Bs) : ∀ ts : List (Bs × Bs), inlsL (ts.map fun t => bloT t.1 t.2 (otherL o)) = ts.flatMap fun _ => inlsL (otherL o)
  | [] => rfl
  | t :: ts => by
    show inls1 (bloT t.1 t.2 (otherL o)) ++ inlsL (ts.map fun t => bloT t.1 t.2 (otherL o)) = _
    rw [inls_terms o ts, inls1_eq]; rfl
theorem inls_glos (o : Option Bs) (ts : List (Bs × Bs)) : inlsL [glosL o ts] = inlsL (otherL o) ++ ts.flatMap fun _ => inlsL (otherL o) := by
  show inls1 (glosL o ts) ++ [] = _
  rw [List.append_nil, inls1_eq]
  show [] ++ inlsL (otherL o ++ ts.map fun t => bloT t.1 t.2 (otherL o)) = _
  rw [List.nil_append, inlsL_app, inls_terms]
/-! The survey -/
theorem quiet_u (s : Bs) : quietI (inlU s) := ⟨rfl, by show (11 : Int) ≠ 14; omega, by show (11 : Int) ≠ 9; omega, by show (11 : Int) ≠ 12; omega⟩
theorem quiet_t (s : Bs) : quietI (textI s) := ⟨rfl, by show (1 : Int) ≠ 14; omega, by show (1 : Int) ≠ 9; omega, by show (1 : Int) ≠ 12; omega⟩
theorem quiet_s : quietI softI := ⟨rfl, by show (2 : Int) ≠ 14; omega, by show (2 : Int) ≠ 9; omega, by show (2 : Int) ≠ 12; omega⟩
theorem step_p (inn : Int) (ins : Bool) (l : List Inl) (st : St) : stepS inn ins (bloP l) st = ⟨st.ns, st.us ++ (deepL l).filter isUse, st.ids⟩ := by
  unfold stepS nsS idsS tmS
  rw [isTm_p, Bool.and_false]
  rfl
theorem sv_p (inn : Int) (ins : Bool) (l : List Inl) (st : St) : sv1 inn ins (bloP l) st = ⟨st.ns, st.us ++ (deepL l).filter isUse, st.ids⟩ := by
  rw [sv1_eq, step_p]; rfl
theorem sv_other (inn : Int) (o : Option Bs) (st : St) : ∀ ins, svL inn ins (otherL o) st = st := by
  intro ins
  cases o with
  | none => rfl
  | some t =>
    show svL inn ins [] (sv1 inn ins (bloP [textI t]) st) = st
    rw [sv_p]
    show (⟨st.ns, st.us ++ [], st.ids⟩ : St) = st
    rw [List.append_nil]
theorem within_p (inn : Int) (ins : Bool) (l : List Inl) (st : St) : withinS inn ins (bloP l) st = inn := by
  unfold withinS tmS; rw [isTm_p, Bool.and_false]
theorem within_t (inn : Int) (nm id : Bs) (kids : List Blo) (st : St) : withinS inn true (bloT nm id kids) st = st.ns.length := by
  unfold withinS tmS; rw [isTm_t]; rfl
theorem within_g (inn : Int) (ins : Bool) (kids : List Blo) (st : St) : withinS inn ins (bloG kids) st = inn := by
  unfold withinS tmS; rw [show isTm (bloG kids) = false from rfl, Bool.and_false]
theorem ok_other (inn : Int) (ins : Bool) (o : Option Bs) (st : St) (h1 : st.ns.length ≤ 1000) (h2 : st.us.length ≤ 1000) : okSL inn ins (otherL o) st := by
  cases o with
  | none => exact trivial
  | some t =>
    refine ⟨?_, trivial⟩
    rw [okS1_eq]
    refine ⟨⟨?_, by show (1 : Int) ≠ 14; omega, fun h => absurd rfl h, ?_, fun _ => rfl, by omega, ?_, by show 0 ≤ _; omega⟩, trivial⟩
    · intro h; unfold tmS at h; rw [isTm_p, Bool.and_false] at h; cases h
    · intro y hy
      have hy' : y ∈ [textI t] := hy
      rw [List.mem_singleton] at hy'; rw [hy']; exact quiet_t t
    · show st.us.length + 1 ≤ _; omega
theorem sv_t (inn : Int) (nm id : Bs) (o : Option Bs) (st : St) (hid : id ≠ []) : sv1 inn true (bloT nm id (otherL o)) st = ⟨st.ns ++ [nm], st.us, st.ids ++ [id]⟩ := by
  rw [sv1_eq]
  show svL _ (isGl (bloT nm id (otherL o))) (otherL o) _ = _
  rw [sv_other]
  unfold stepS
  have e1 : nsS true (bloT nm id (otherL o)) st = st.ns ++ [nm] := by unfold nsS tmS; rw [isTm_t, defName_t]; rfl
  have e2 : idsS inn true (bloT nm id (otherL o)) st = st.ids ++ [id] := by
    unfold idsS
    rw [within_t]
    have a : ((bloT nm id (otherL o)).id == []) = false := by show (id == []) = false; simpa using hid
    have b : decide ((st.ns.length : Int) = -1) = false := by simp
    rw [a, b]; rfl
  rw [e1, e2]
  show (⟨st.ns ++ [nm], st.us ++ [], st.ids ++ [id]⟩ : St) = _
  rw [List.append_nil]
theorem sv_terms (o : Option Bs) : ∀ (ts : List (Bs × Bs)) (st : St), (∀ t ∈ ts, t.2 ≠ []) → svL (-1) true (ts.map fun t => bloT t.1 t.2 (otherL o)) st = ⟨st.ns ++ ts.map (·.1), st.us, st.ids ++ ts.map (·.2)⟩
  | [], st, _ => by show st = _; simp
  | t :: ts, st, h => by
    show svL (-1) true (ts.map fun t => bloT t.1 t.2 (otherL o)) (sv1 (-1) true (bloT t.1 t.2 (otherL o)) st) = _
    rw [sv_t _ _ _ _ _ (h t (List.mem_cons_self ..)), sv_terms o ts _ (fun x hx => h x (List.mem_cons_of_mem _ hx))]
    simp
theorem ok_terms (o : Option Bs) : ∀ (ts : List (Bs × Bs)) (st : St), (∀ t ∈ ts, t.2 ≠ []) → (st.ns ++ ts.map (·.1)).Nodup → (st.ids ++ ts.map (·.2)).Nodup → st.ns.length + ts.length ≤ 999 → st.us.length ≤ 999 → okSL (-1) true (ts.map fun t => bloT t.1 t.2 (otherL o)) st
  | [], _, _, _, _, _, _ => trivial
  | t :: ts, st, h, n1, n2, l1, l2 => by
    have hid := h t (List.mem_cons_self ..)
    rw [List.length_cons] at l1
    refine ⟨?_, ?_⟩
    · rw [okS1_eq]
      refine ⟨⟨fun _ => ⟨rfl, ?_⟩, by show (13 : Int) ≠ 14; omega, fun _ _ => ?_, fun y hy => (by cases hy), fun _ => rfl, by omega, ?_, by show 1 ≤ _; omega⟩, ?_⟩
      · rw [defName_t]
        intro q
        exact (List.nodup_append.1 n1).2.2 t.1 q t.1 (List.mem_cons_self ..) rfl
      · intro q
        exact (List.nodup_append.1 n2).2.2 t.2 q t.2 (List.mem_cons_self ..) rfl
      · show st.us.length + 0 ≤ _; omega
      · refine ok_other _ _ o _ ?_ ?_
        · show (nsS true (bloT t.1 t.2 (otherL o)) st).length ≤ _
          have e1 : nsS true (bloT t.1 t.2 (otherL o)) st = st.ns ++ [t.1] := by unfold nsS tmS; rw [isTm_t, defName_t]; rfl
          rw [e1, List.length_append, List.length_singleton]; omega
        · show (st.us ++ []).length ≤ _
          rw [List.append_nil]; omega
    · rw [sv_t _ _ _ _ _ hid]
      refine ok_terms o ts _ (fun x hx => h x (List.mem_cons_of_mem _ hx)) ?_ ?_ ?_ l2
      · simpa using n1
      · simpa using n2
      · show (st.ns ++ [t.1]).length + _ ≤ _
        rw [List.length_append, List.length_singleton]; omega
theorem step_g (inn : Int) (ins : Bool) (kids : List Blo) (st : St) : stepS inn ins (bloG kids) st = st := by
  unfold stepS nsS idsS tmS
  rw [show isTm (bloG kids) = false from rfl, Bool.and_false]
  show (⟨st.ns, st.us ++ [], st.ids⟩ : St) = st
  rw [List.append_nil]
theorem sv_g (kids : List Blo) (st : St) : sv1 (-1) false (bloG kids) st = svL (-1) true kids st := by
  rw [sv1_eq, step_g, within_g]; rfl
theorem ok_g (kids : List Blo) (st : St) (h1 : st.ns.length ≤ 1000) (h2 : st.us.length ≤ 1000) (h : okSL (-1) true kids st) : okS1 (-1) false (bloG kids) st := by
  rw [okS1_eq, step_g, within_g]
  refine ⟨⟨fun q => ?_, (by show (13 : Int) ≠ 14; omega), fun q => absurd rfl q, fun y hy => (by cases hy), fun _ => rfl, by omega, ?_, by show 0 ≤ _; omega⟩, h⟩
  · unfold tmS at q; cases q
  · show st.us.length + 0 ≤ _; omega
/-! The documents -/
def hdL (u : Option (List Bs × Bs)) : List Blo := match u with | none => [] | some p => [bloP (usL p.1 p.2)]
def tlL (g : Option (Option Bs × List (Bs × Bs))) : List Blo := match g with | none => [] | some p => [glosL p.1 p.2]
def nsU (u : Option (List Bs × Bs)) : List Bs := match u with | none => [] | some p => p.1 ++ [p.2]
def tsG (g : Option (Option Bs × List (Bs × Bs))) : List (Bs × Bs) := match g with | none => [] | some p => p.2
def oG (g : Option (Option Bs × List (Bs × Bs))) : Option Bs := match g with | none => none | some p => p.1
def docL (u : Option (List Bs × Bs)) (g : Option (Option Bs × List (Bs × Bs))) : List Blo := hdL u ++ tlL g
/-- Names that are short, and differ. -/
structure FineD (u : Option (List Bs × Bs)) (g : Option (Option Bs × List (Bs × Bs))) : Prop where
  us : ∀ s ∈ nsU u, s.length ≤ 900
  un : (nsU u).Nodup
  ul : (nsU u).length ≤ 100
  ts : ∀ t ∈ tsG g, t.1 ≠ [] ∧ t.2 ≠ [] ∧ t.1.length ≤ 900 ∧ t.2.length ≤ 900
  t1 : ((tsG g).map (·.1)).Nodup
  t2 : ((tsG g).map (·.2)).Nodup
  tl : (tsG g).length ≤ 19
  o : ∀ t, oG g = some t → t.length ≤ 900
theorem okIL_of : ∀ {xs : List Inl}, (∀ x ∈ xs, okI1 x) → okIL xs
  | [], _ => trivial
  | x :: xs, h => ⟨h x (List.mem_cons_self ..), okIL_of fun y hy => h y (List.mem_cons_of_mem _ hy)⟩
theorem okBL_of : ∀ {xs : List Blo}, (∀ x ∈ xs, okB1 x) → okBL xs
  | [], _ => trivial
  | x :: xs, h => ⟨h x (List.mem_cons_self ..), okBL_of fun y hy => h y (List.mem_cons_of_mem _ hy)⟩
theorem okTL_of : ∀ {xs : List Blo}, (∀ x ∈ xs, okT1 x) → okTL xs
  | [], _ => trivial
  | x :: xs, h => ⟨h x (List.mem_cons_self ..), okTL_of fun y hy => h y (List.mem_cons_of_mem _ hy)⟩
theorem okI_us {ns : List Bs} {z : Bs} (h : ∀ s ∈ ns ++ [z], s.length ≤ 900) : ∀ x ∈ deepL (usL ns z), okU x :=
  usL_all (fun s hs => ⟨okU_u (Nat.le_trans (h s hs) (by omega)), okU_t (Nat.le_trans (h s hs) (by omega))⟩) okU_s
theorem okB_p {l : List Inl} (h : ∀ x ∈ deepL l, okU x) (hl : l.length ≤ 1000000) : okB1 (bloP l) := by
  refine ⟨⟨?_, ?_, ?_, ?_, ?_, ?_, ?_, ?_, ?_⟩, okIL_of (fun x hx => (h x (deepL_mem hx).1).1), trivial⟩ <;> first | exact hl | simp
theorem okT_p {l : List Inl} (h : ∀ x ∈ deepL l, okU x) : okT1 (bloP l) := ⟨h, by show 0 ≤ _; omega, by show 0 ≤ _; omega, trivial⟩
theorem okD_t {t : Bs} (h : t.length ≤ 900) : ∀ x ∈ deepL [textI t], okU x := by
  intro x hx
  have hx' : x ∈ [textI t] := hx
  rw [List.mem_singleton] at hx'; rw [hx']; exact okU_t (by omega)
theorem okB_o {o : Option Bs} (h : ∀ t, o = some t → t.length ≤ 900) : ∀ x ∈ otherL o, okB1 x := by
  cases o with
  | none => intro x hx; cases hx
  | some t => intro x hx; rw [show otherL (some t) = [bloP [textI t]] from rfl, List.mem_singleton] at hx; rw [hx]; exact okB_p (okD_t (h t rfl)) (by simp)
theorem okT_o {o : Option Bs} (h : ∀ t, o = some t → t.length ≤ 900) : ∀ x ∈ otherL o, okT1 x := by
  cases o with
  | none => intro x hx; cases hx
  | some t => intro x hx; rw [show otherL (some t) = [bloP [textI t]] from rfl, List.mem_singleton] at hx; rw [hx]; exact okT_p (okD_t (h t rfl))
theorem other_len (o : Option Bs) : (otherL o).length ≤ 1 := by cases o <;> simp [otherL]
theorem other_tm (o : Option Bs) : (otherL o).filter isTm = [] := by cases o <;> rfl
theorem okB_t {o : Option Bs} (h : ∀ t, o = some t → t.length ≤ 900) {t : Bs × Bs} (ht : t.1.length ≤ 900 ∧ t.2.length ≤ 900) : okB1 (bloT t.1 t.2 (otherL o)) := by
  have := other_len o
  refine ⟨⟨?_, ?_, ?_, ?_, ?_, ?_, ?_, ?_, ?_⟩, trivial, okBL_of (okB_o h)⟩ <;> first | omega | simp [kTerm]
theorem okT_t {o : Option Bs} (h : ∀ t, o = some t → t.length ≤ 900) {t : Bs × Bs} (ht : t.1.length ≤ 900) : okT1 (bloT t.1 t.2 (otherL o)) := by
  refine ⟨fun x hx => (by cases hx), ?_, ?_, okTL_of (okT_o h)⟩
  · have := defName_t t.1 t.2 (otherL o)
    unfold defName at this
    show ((getP (bloT t.1 t.2 (otherL o)).prs kName).getD []).length ≤ _
    rw [this]; omega
  · rw [other_tm]; show 0 ≤ _; omega
theorem glos_tm (o : Option Bs) (ts : List (Bs × Bs)) : ((otherL o ++ ts.map fun t => bloT t.1 t.2 (otherL o)).filter isTm).length ≤ ts.length := by
  rw [List.filter_append, other_tm, List.nil_append]
  exact Nat.le_trans (List.length_filter_le _ _) (by rw [List.length_map]; exact Nat.le_refl _)
theorem glos_all {p : Blo → Prop} {o : Option Bs} {ts : List (Bs × Bs)} (h1 : ∀ x ∈ otherL o, p x) (h2 : ∀ t ∈ ts, p (bloT t.1 t.2 (otherL o))) : ∀ x ∈ otherL o ++ ts.map (fun t => bloT t.1 t.2 (otherL o)), p x := by
  intro x hx
  rcases List.mem_append.1 hx with q | q
  · exact h1 x q
  · obtain ⟨t, ht, rfl⟩ := List.mem_map.1 q
    exact h2 t ht
theorem defs_doc (u : Option (List Bs × Bs)) (g : Option (Option Bs × List (Bs × Bs))) : defsL false (docL u g) = (tsG g).map fun t => bloT t.1 t.2 (otherL (oG g)) := by
  unfold docL
  rw [defsL_app]
  have h1 : defsL false (hdL u) = [] := by cases u <;> rfl
  rw [h1, List.nil_append]
  cases g with
  | none => rfl
  | some p => exact defs_glos p.1 p.2
theorem inls_other_len (o : Option Bs) : (inlsL (otherL o)).length ≤ 1 := by cases o <;> simp [inls_other]
theorem inls_other_use (o : Option Bs) : (inlsL (otherL o)).filter isUse = [] := by cases o <;> rfl
theorem inls_doc (u : Option (List Bs × Bs)) (g : Option (Option Bs × List (Bs × Bs))) : inlsL (docL u g) = inlsL (hdL u) ++ inlsL (tlL g) := by unfold docL; rw [inlsL_app]
theorem inls_hd (ns : List Bs) (z : Bs) : inlsL (hdL (some (ns, z))) = deepL (usL ns z) := by
  show inls1 (bloP (usL ns z)) ++ [] = _
  rw [List.append_nil, inls1_eq]
  show deepL (usL ns z) ++ [] = _
  rw [List.append_nil]
theorem uses_doc {u : Option (List Bs × Bs)} {g : Option (Option Bs × List (Bs × Bs))} : (inlsL (docL u g)).filter isUse = (nsU u).map inlU := by
  rw [inls_doc, List.filter_append]
  have h1 : (inlsL (hdL u)).filter isUse = (nsU u).map inlU := by
    cases u with
    | none => rfl
    | some p => rw [inls_hd]; exact filtU p.1 p.2
  have h2 : (inlsL (tlL g)).filter isUse = [] := by
    cases g with
    | none => rfl
    | some p =>
      show (inlsL [glosL p.1 p.2]).filter isUse = []
      rw [inls_glos, List.filter_append, inls_other_use, List.nil_append]
      generalize p.2 = ts
      induction ts with
      | nil => rfl
      | cons t ts ih => rw [List.flatMap_cons, List.filter_append, inls_other_use, List.nil_append, ih]
  rw [h1, h2, List.append_nil]
theorem sv_doc {u : Option (List Bs × Bs)} {g : Option (Option Bs × List (Bs × Bs))} (h : FineD u g) : svL (-1) false (docL u g) ⟨[], [], []⟩ = ⟨(tsG g).map (·.1), (nsU u).map inlU, (tsG g).map (·.2)⟩ := by
  unfold docL
  rw [svL_app]
  have h1 : svL (-1) false (hdL u) ⟨[], [], []⟩ = ⟨[], (nsU u).map inlU, []⟩ := by
    cases u with
    | none => rfl
    | some p =>
      show sv1 (-1) false (bloP (usL p.1 p.2)) ⟨[], [], []⟩ = _
      rw [sv_p, filtU]; rfl
  rw [h1]
  cases g with
  | none => rfl
  | some p =>
    show sv1 (-1) false (glosL p.1 p.2) _ = _
    unfold glosL
    rw [sv_g, svL_app, sv_other, sv_terms p.1 p.2 _ (fun t ht => (h.ts t (show t ∈ tsG (some p) from ht)).2.1)]
    rfl
theorem okS_doc {u : Option (List Bs × Bs)} {g : Option (Option Bs × List (Bs × Bs))} (h : FineD u g) : okSL (-1) false (docL u g) ⟨[], [], []⟩ := by
  unfold docL
  have h1 : svL (-1) false (hdL u) ⟨[], [], []⟩ = ⟨[], (nsU u).map inlU, []⟩ := by
    cases u with
    | none => rfl
    | some p =>
      show sv1 (-1) false (bloP (usL p.1 p.2)) ⟨[], [], []⟩ = _
      rw [sv_p, filtU]; rfl
  refine okSL_app ?_ ?_
  · cases u with
    | none => exact trivial
    | some p =>
      refine ⟨?_, trivial⟩
      have hl := deepU_len p.1 p.2
      have hn : p.1.length ≤ 100 := by have := h.ul; unfold nsU at this; rw [List.length_append] at this; omega
      rw [okS1_eq]
      refine ⟨⟨fun q => (by cases q), (by show (1 : Int) ≠ 14; omega), fun q => absurd rfl q, ?_, fun q => absurd (within_p _ _ _ _) q, (by show 0 ≤ _; omega), ?_, (by show 0 ≤ _; omega)⟩, trivial⟩
      · exact usL_all (fun s _ => ⟨quiet_u s, quiet_t s⟩) quiet_s
      · show 0 + (deepL (usL p.1 p.2)).length ≤ _
        rw [hl]; omega
  · rw [h1]
    cases g with
    | none => exact trivial
    | some p =>
      have hlen : ((nsU u).map inlU).length ≤ 100 := by rw [List.length_map]; exact h.ul
      refine ⟨ok_g _ _ (by show 0 ≤ _; omega) (by show ((nsU u).map inlU).length ≤ _; omega) (okSL_app (ok_other _ _ _ _ (by show 0 ≤ _; omega) (by show ((nsU u).map inlU).length ≤ _; omega)) ?_), trivial⟩
      rw [sv_other]
      refine ok_terms p.1 p.2 _ (fun t ht => (h.ts t (show t ∈ tsG (some p) from ht)).2.1) (by show (([] : List Bs) ++ p.2.map Prod.fst).Nodup; rw [List.nil_append]; exact h.t1) (by show (([] : List Bs) ++ p.2.map Prod.snd).Nodup; rw [List.nil_append]; exact h.t2) ?_ (by show ((nsU u).map inlU).length ≤ _; omega)
      have : p.2.length ≤ 19 := h.tl
      show 0 + p.2.length ≤ _; omega
theorem fit_doc {u : Option (List Bs × Bs)} {g : Option (Option Bs × List (Bs × Bs))} (h : FineD u g) : FitD (docL u g) ⟨(tsG g).map (·.1), (nsU u).map inlU, (tsG g).map (·.2)⟩ (tsG g) := by
  have hdl : (docL u g).length ≤ 2 := by
    unfold docL; rw [List.length_append]
    have a : (hdL u).length ≤ 1 := by cases u <;> simp [hdL]
    have b : (tlL g).length ≤ 1 := by cases g <;> simp [tlL]
    omega
  have hU : ∀ x ∈ inlsL (docL u g), okU x := by
    rw [inls_doc]
    intro x hx
    rcases List.mem_append.1 hx with q | q
    · cases u with
      | none => cases q
      | some p => rw [inls_hd] at q; exact okI_us h.us x q
    · cases g with
      | none => cases q
      | some p =>
        have q' : x ∈ inlsL [glosL p.1 p.2] := q
        rw [inls_glos] at q'
        have ho : x ∈ inlsL (otherL p.1) := by
          rcases List.mem_append.1 q' with r | r
          · exact r
          · obtain ⟨_, _, r⟩ := List.mem_flatMap.1 r; exact r
        have hoo := h.o
        obtain ⟨o, ts⟩ := p
        cases o with
        | none => cases ho
        | some t => rw [inls_other] at ho; rw [List.mem_singleton.1 ho]; exact okU_t (Nat.le_trans (hoo t rfl) (by omega))
  have hdocs : ∀ (p : Blo → Prop), (∀ ns z, u = some (ns, z) → p (bloP (usL ns z))) → (∀ o ts, g = some (o, ts) → p (glosL o ts)) → ∀ x ∈ docL u g, p x := by
    intro p h1 h2 x hx
    unfold docL at hx
    rcases List.mem_append.1 hx with q | q
    · cases u with
      | none => cases q
      | some r => rw [List.mem_singleton.1 (show x ∈ [bloP (usL r.1 r.2)] from q)]; exact h1 r.1 r.2 rfl
    · cases g with
      | none => cases q
      | some r => rw [List.mem_singleton.1 (show x ∈ [glosL r.1 r.2] from q)]; exact h2 r.1 r.2 rfl
  have hlen : (inlsL (docL u g)).length ≤ 1000000 := by
    rw [inls_doc, List.length_append]
    have a : (inlsL (hdL u)).length ≤ 302 := by
      cases u with
      | none => show 0 ≤ _; omega
      | some p =>
        rw [inls_hd, deepU_len]
        have := h.ul; unfold nsU at this; rw [List.length_append] at this; simp only [List.length_singleton] at this; omega
    have b : (inlsL (tlL g)).length ≤ 20 := by
      cases g with
      | none => show 0 ≤ _; omega
      | some p =>
        show (inlsL [glosL p.1 p.2]).length ≤ _
        rw [inls_glos, List.length_append]
        have c := inls_other_len p.1
        have e : ∀ ts : List (Bs × Bs), (ts.flatMap fun _ => inlsL (otherL p.1)).length ≤ ts.length := by
          intro ts
          induction ts with
          | nil => simp
          | cons t ts ih => rw [List.flatMap_cons, List.length_append, List.length_cons]; omega
        have f := e p.2
        have d : p.2.length ≤ 19 := h.tl
        omega
    omega
  refine ⟨?_, sv_doc h, by omega, ?_, ?_, ?_, ?_, ?_, ?_, hlen, hU, okS_doc h, h.t1, ?_, ?_, ?_⟩
  · rw [defs_doc, List.map_map]
    conv => rhs; rw [← List.map_id (tsG g)]
    exact List.map_congr_left fun t _ => by show (defName (bloT t.1 t.2 _), t.2) = t; rw [defName_t]
  · refine okBL_of (hdocs _ (fun ns z e => ?_) (fun o ts e => ?_))
    · subst e
      refine okB_p (okI_us h.us) ?_
      rw [usL_len]; have := h.ul; unfold nsU at this; rw [List.length_append] at this; simp only at this; omega
    · subst e
      have hl := other_len o
      have ht : ts.length ≤ 19 := h.tl
      refine ⟨⟨?_, ?_, ?_, ?_, ?_, ?_, ?_, ?_, ?_⟩, trivial, okBL_of (glos_all (okB_o h.o) (fun t ht => okB_t h.o ⟨(h.ts t ht).2.2.1, (h.ts t ht).2.2.2⟩))⟩ <;> first | (rw [List.length_append, List.length_map]; omega) | simp [kGlos]
  · refine okTL_of (hdocs _ (fun ns z e => ?_) (fun o ts e => ?_))
    · subst e; exact okT_p (okI_us h.us)
    · subst e
      exact ⟨fun x hx => (by cases hx), (by show 0 ≤ _; omega), Nat.le_trans (glos_tm o ts) h.tl, okTL_of (glos_all (okT_o h.o) (fun t ht => okT_t h.o (h.ts t ht).2.2.1))⟩
  · rw [defs_doc, List.length_map]; have := h.tl; omega
  · rw [defs_doc]
    intro d hd
    obtain ⟨t, _, rfl⟩ := List.mem_map.1 hd
    show 1 ≤ _; omega
  · rw [defs_doc]
    refine ⟨fun d hd => ?_, ?_⟩
    · obtain ⟨t, ht, rfl⟩ := List.mem_map.1 hd
      rw [defName_t]
      refine ⟨?_, (h.ts t ht).1, (h.ts t ht).2.1⟩
      show getP [(kName, t.1)] kName = _
      rw [getP_cons, if_pos rfl]
    · rw [List.map_map]
      have : ((defName ∘ fun t : Bs × Bs => bloT t.1 t.2 (otherL (oG g))) : Bs × Bs → Bs) = fun t => t.1 := by funext t; exact defName_t _ _ _
      rw [this]; exact h.t1
  · intro e he; have := (h.ts e he).2.2.2; omega
  · rw [List.length_map]; have := h.tl; omega
  · rw [List.length_map]; have := h.ul; omega
  · intro x hx
    obtain ⟨s, hs, rfl⟩ := List.mem_map.1 hx
    exact ⟨okU_u (Nat.le_trans (h.us s hs) (by omega)), rfl⟩
end Go.Proofs.Ythbnahagfojfbaa

/- What gloss.Fill makes of the documents of law27, in plain Lean. Conditions: names that differ. -/
set_option linter.all false
namespace Go.Proofs.Ythbnahagfojfbaa
open Go.RowKit Go.Sort

/-- A use with its link. -/
def lnkU (ids : Bs → Bs) (s : Bs) : Inl := .mk 11 [] [] [] [] [kTerm] [] [] [] [linkI (ids s) s [textI s]]
def lnkL (ids : Bs → Bs) (ns : List Bs) (z : Bs) : List Inl := ns.flatMap (fun s => [lnkU ids s, softI]) ++ [lnkU ids z]
theorem line_t (ids : Bs → Bs) (cov : Bool) (s : Bs) : lineL ids cov [textI s] = [textI s] := by
  show [line1 ids cov (textI s)] = _
  have : isUse (textI s) = false := rfl
  show [Inl.mk 1 s [] [] [] [] [] [] [] (linkSel (isUse (textI s) && _) _ _ (lineL ids _ []))] = _
  rw [this]; rfl
theorem line_s (ids : Bs → Bs) (cov : Bool) : line1 ids cov softI = softI := by
  have : isUse softI = false := rfl
  show Inl.mk 2 [] [] [] [] [] [] [] [] (linkSel (isUse softI && _) _ _ (lineL ids _ [])) = _
  rw [this]; rfl
theorem line_u (ids : Bs → Bs) (s : Bs) : line1 ids false (inlU s) = lnkU ids s := by
  show Inl.mk 11 [] [] [] [] [kTerm] [] [] [] (linkSel (isUse (inlU s) && (!false && !hasRefL [textI s])) (ids (useName (inlU s))) (useName (inlU s)) (lineL ids _ [textI s])) = _
  rw [isUse_u, useName_u, line_t]
  rfl
theorem lineL_flat (ids : Bs → Bs) (cov : Bool) (f : Bs → List Inl) : ∀ ns : List Bs, lineL ids cov (ns.flatMap f) = ns.flatMap fun s => lineL ids cov (f s)
  | [] => rfl
  | s :: ns => by rw [List.flatMap_cons, List.flatMap_cons, lineL_app, lineL_flat ids cov f ns]
theorem line_us (ids : Bs → Bs) (ns : List Bs) (z : Bs) : lineL ids false (usL ns z) = lnkL ids ns z := by
  unfold usL lnkL
  rw [lineL_app, lineL_flat]
  have e1 : ∀ s, lineL ids false [inlU s, softI] = [lnkU ids s, softI] := fun s => by
    show [line1 ids false (inlU s), line1 ids false softI] = _
    rw [line_u, line_s]
  have e2 : lineL ids false [inlU z] = [lnkU ids z] := by show [line1 ids false (inlU z)] = _; rw [line_u]
  rw [e2]
  congr 1
  have e3 : (fun s => lineL ids false [inlU s, softI]) = fun s => [lnkU ids s, softI] := funext e1
  rw [e3]
section
variable (ids : Bs → Bs) (ks : List Bs) (cf : Blo → Blo → Int)
theorem blk_p (l : List Inl) : blk1 ids ks cf (bloP l) = bloP (lineL ids false l) := by
  show Blo.mk 1 0 [] [] [] [] [] [] [] (lineL ids false l) (blkO ids ks cf _ [] ++ srtL cf (blkT ids ks cf _ [])) = _
  unfold blkO blkT
  rw [srtL_nil]; rfl
theorem blkO_other (i : Bool) (o : Option Bs) : blkO ids ks cf i (otherL o) = otherL o := by
  cases o with
  | none => unfold otherL blkO; rfl
  | some t =>
    show blkO ids ks cf i [bloP [textI t]] = _
    rw [blkO_one, isTm_p, Bool.and_false, blk_p, line_t]; rfl
theorem blkT_other (i : Bool) (o : Option Bs) : blkT ids ks cf i (otherL o) = [] := by
  cases o with
  | none => unfold otherL blkT; rfl
  | some t =>
    show blkT ids ks cf i [bloP [textI t]] = _
    rw [blkT_one, isTm_p, Bool.and_false]; rfl
theorem blk_t (nm id : Bs) (o : Option Bs) : blk1 ids ks cf (bloT nm id (otherL o)) = bloT nm id (otherL o) := by
  show Blo.mk 13 0 kTerm [] [] [] id [] [(kName, nm)] (lineL ids false []) (blkO ids ks cf _ (otherL o) ++ srtL cf (blkT ids ks cf _ (otherL o))) = _
  rw [blkO_other, blkT_other, srtL_nil, List.append_nil]; rfl
theorem blkO_terms (o : Option Bs) : ∀ ts : List (Bs × Bs), blkO ids ks cf true (ts.map fun t => bloT t.1 t.2 (otherL o)) = []
  | [] => by rw [List.map_nil]; unfold blkO; rfl
  | t :: ts => by
    show selB (!(true && isTm (bloT t.1 t.2 (otherL o)))) _ ++ blkO ids ks cf true (ts.map fun t => bloT t.1 t.2 (otherL o)) = _
    rw [blkO_terms o ts, isTm_t]; rfl
theorem blkT_terms (o : Option Bs) : ∀ ts : List (Bs × Bs), blkT ids ks cf true (ts.map fun t => bloT t.1 t.2 (otherL o)) = (ts.filter fun t => ks.contains t.1).map fun t => bloT t.1 t.2 (otherL o)
  | [] => by rw [List.map_nil]; unfold blkT; rfl
  | t :: ts => by
    show selB ((true && isTm (bloT t.1 t.2 (otherL o))) && ks.contains (defName (bloT t.1 t.2 (otherL o)))) _ ++ blkT ids ks cf true (ts.map fun t => bloT t.1 t.2 (otherL o)) = _
    rw [blkT_terms o ts, isTm_t, defName_t, blk_t, List.filter_cons]
    cases ks.contains t.1 <;> rfl
theorem blk_glos (o : Option Bs) (ts : List (Bs × Bs)) : blk1 ids ks cf (glosL o ts) = bloG (otherL o ++ srtL cf ((ts.filter fun t => ks.contains t.1).map fun t => bloT t.1 t.2 (otherL o))) := by
  show Blo.mk 13 0 kGlos [] [] [] [] [] [] (lineL ids false []) (blkO ids ks cf true (otherL o ++ ts.map fun t => bloT t.1 t.2 (otherL o)) ++ srtL cf (blkT ids ks cf true (otherL o ++ ts.map fun t => bloT t.1 t.2 (otherL o)))) = _
  rw [blkO_app, blkT_app, blkO_other, blkT_other, blkO_terms, blkT_terms, List.append_nil, List.nil_append]; rfl
theorem blkL_out : ∀ xs, blkL ids ks cf false xs = xs.map (blk1 ids ks cf) := by
  intro xs
  unfold blkL
  rw [blkT_out _ _ _ _ _ rfl, srtL_nil, List.append_nil]
  induction xs with
  | nil => unfold blkO; rfl
  | cons x xs ih =>
    show selB (!(false && isTm x)) (blk1 ids ks cf x) ++ blkO ids ks cf false xs = _
    rw [ih]; rfl
end
/-- What Fill makes of a document. -/
def resL (ids : Bs → Bs) (cf : Blo → Blo → Int) (u : Option (List Bs × Bs)) (g : Option (Option Bs × List (Bs × Bs))) : List Blo :=
  (match u with | none => [] | some p => [bloP (lnkL ids p.1 p.2)]) ++ (match g with | none => [] | some p => [bloG (otherL p.1 ++ srtL cf (p.2.map fun t => bloT t.1 t.2 (otherL p.1)))])
def keepG (ks : List Bs) (g : Option (Option Bs × List (Bs × Bs))) : Option (Option Bs × List (Bs × Bs)) := match g with | none => none | some p => some (p.1, p.2.filter fun t => ks.contains t.1)
theorem blkL_doc (ids : Bs → Bs) (ks : List Bs) (cf : Blo → Blo → Int) (u : Option (List Bs × Bs)) (g : Option (Option Bs × List (Bs × Bs))) : blkL ids ks cf false (docL u g) = resL ids cf u (keepG ks g) := by
  rw [blkL_out]
  unfold docL resL
  rw [List.map_append]
  congr 1
  · cases u with
    | none => rfl
    | some p => show [blk1 ids ks cf (bloP (usL p.1 p.2))] = _; rw [blk_p, line_us]
  · cases g with
    | none => rfl
    | some p => show [blk1 ids ks cf (glosL p.1 p.2)] = _; rw [blk_glos]; rfl
theorem srt_one (cf : Blo → Blo → Int) (x : Blo) : srtL cf [x] = [x] := by
  unfold srtL insertionSort
  rw [insOuter_stop _ _ _ _ _ (by simp)]

/-! The order -/
theorem swoN (c : ColT) : SWO (ltB (cfN c)) := by
  refine ⟨fun x => ?_, fun x y z h1 h2 => ?_, fun x y z h1 h2 => ?_⟩
  · unfold ltB cfN; rw [cmpC_self]; rfl
  · unfold ltB cfN at *
    have h1 := of_decide_eq_true h1
    have h2 := of_decide_eq_true h2
    have h3 := cmpC_trans c _ _ _ (Int.le_of_lt h1) (Int.le_of_lt h2)
    refine decide_eq_true ?_
    rcases Int.lt_or_eq_of_le h3 with q | q
    · exact q
    · exfalso
      have e := (cmpC_zero c _ _).1 q
      rw [e, cmpC_neg] at h1; omega
  · unfold ltB cfN at *
    have h1 := of_decide_eq_false h1
    have h2 := of_decide_eq_false h2
    rw [cmpC_neg] at h1 h2
    refine decide_eq_false ?_
    have h3 := cmpC_trans c (defName z) (defName y) (defName x) (by omega) (by omega)
    rw [cmpC_neg]; omega
theorem srt_perm (c : ColT) (xs : List Blo) : (srtL (cfN c) xs).Perm xs := by
  have h := (insertionSort_holds (lt := ltB (cfN c)) (swoN c) xs.toArray 0 xs.length (Nat.zero_le _) (by simp)).1
  obtain ⟨hs, -, hp⟩ := h
  unfold srtL
  have e1 : (insertionSort (ltB (cfN c)) xs.toArray 0 xs.length).extract 0 xs.length = insertionSort (ltB (cfN c)) xs.toArray 0 xs.length := by
    rw [Array.extract_eq_self_of_le]; rw [hs]; simp
  have e2 : xs.toArray.extract 0 xs.length = xs.toArray := by rw [Array.extract_eq_self_of_le]; simp
  rw [e1, e2] at hp
  exact hp
theorem srt_sorted (c : ColT) (xs : List Blo) : ∀ (i j : Nat) (a b : Blo), i < j → (srtL (cfN c) xs)[i]? = some a → (srtL (cfN c) xs)[j]? = some b → cmpC c (defName a) (defName b) ≤ 0 := by
  intro i j a b hij ha hb
  have h := (insertionSort_holds (lt := ltB (cfN c)) (swoN c) xs.toArray 0 xs.length (Nat.zero_le _) (by simp)).2
  have hl := srtL_len (cfN c) xs
  have hj := (List.getElem?_eq_some_iff.1 hb).1
  have h1 := h i j (Nat.zero_le _) hij (by omega)
  unfold srtL at ha hb
  rw [Array.getElem?_toList] at ha hb
  have ea : (insertionSort (ltB (cfN c)) xs.toArray 0 xs.length)[i]! = a := by rw [getElem!_def, ha]
  have eb : (insertionSort (ltB (cfN c)) xs.toArray 0 xs.length)[j]! = b := by rw [getElem!_def, hb]
  rw [ea, eb] at h1
  unfold ltB cfN at h1
  have := of_decide_eq_false h1
  rw [cmpC_neg] at this; omega
end Go.Proofs.Ythbnahagfojfbaa

/- The reference's equality of documents: equal ones are told equal. Conditions: lengths. -/
set_option linter.all false
namespace Go.Proofs.Ythbnahagfojfbaa
open Go.RowKit

set_option maxRecDepth 100000 in
set_option maxHeartbeats 1600000 in
theorem texts4_eq (v v' : Value) (xs : List Bs) (w : World) (hv : Strs w v xs) (hv' : Strs w v' xs) (hN : xs.length ≤ 1100000) :
    Calls Try.prog 47 #[v, v'] w fun e w' => e = .returned (.bool true) ∧ Kept w w' := by
  have HV := Lib.hid hv
  have HV2 := Lib.hid hv'
  obtain ⟨a, c, rfl, hc, h3⟩ := hv
  obtain ⟨b, d, rfl, hd, h4⟩ := hv'
  clear h3 h4
  go_enter Try.func47, Try.ntmps47
  go_wp2_with fail
  go_loopw [5] (fun i wr => ∃ k : Nat, k ≤ xs.length ∧ i = .int .i64 k ∧ Kept w wr) (fun i _ => xs.length - (intOf i).toNat)
  case atStart => exact ⟨0, Nat.zero_le _, rfl, Kept.refl _⟩
  case round =>
    obtain ⟨k, hk, rfl, hkr⟩ := hrel
    have HR := Lib.hid hkr
    by_cases hlt : k < xs.length
    · obtain ⟨q, hx⟩ : ∃ x, xs[k]? = some x := ⟨_, List.getElem?_eq_getElem hlt⟩
      obtain ⟨a', c', hva, _, h3⟩ := HV.out.kept hkr
      obtain ⟨rfl, hdead, rfl⟩ := Value.slice.inj hva
      clear hdead
      obtain ⟨b', d', hvb, _, h4⟩ := HV2.out.kept hkr
      obtain ⟨rfl, hdead, rfl⟩ := Value.slice.inj hvb
      clear hdead
      obtain ⟨g, o, rfl, hg, hcc⟩ := h3 (by omega)
      obtain ⟨g2, o2, rfl, hg2, hcc2⟩ := h4 (by omega)
      have c0 := hcc k q hx
      have d0 := hcc2 k q hx
      clear hkr hcc hcc2 h3 h4 hva hvb hx
      go_wp2_with fail
      go_region
      all_goals
        go_wp2_with fail
        go_roundw
        case rel => exact ⟨k + 1, by omega, by go_num, HR.out.trans (kept_drewN _ _)⟩
        case measure => simp [intOf]; omega
    · clear hkr
      go_wp2_with fail
      go_ret
      exact ⟨rfl, HR.out⟩
set_option maxRecDepth 100000 in
set_option maxHeartbeats 1600000 in
theorem attrs4_eq (id : Bs) (vC vP vC' vP' : Value) (cls : List Bs) (prs : List Pr) (w : World) (h1 : Strs w vC cls) (h2 : Prs w vP prs) (h3 : Strs w vC' cls) (h4 : Prs w vP' prs) (l1 : cls.length ≤ 1100000) (l2 : prs.length ≤ 1100000) :
    Calls Try.prog 28 #[atV id vC vP, atV id vC' vP'] w fun e w' => e = .returned (.bool true) ∧ Kept w w' := by
  have H1 := Lib.hid h1
  have H2 := Lib.hid h2
  have H3 := Lib.hid h3
  have H4 := Lib.hid h4
  obtain ⟨aC, cC, rfl, lC⟩ := h1.shape
  obtain ⟨aP, cP, rfl, lP⟩ := h2.shape
  obtain ⟨aC', cC', rfl, lC'⟩ := h3.shape
  obtain ⟨aP', cP', rfl, lP'⟩ := h4.shape
  clear h1 h2 h3 h4
  have HK1 := Lib.hid (kept_alloc w (.cells #[.string (bs id), .slice aC cls.length cC, .slice aP prs.length cP] 35))
  have HB1 := Lib.hid (Blk.new w 35 #[.string (bs id), .slice aC cls.length cC, .slice aP prs.length cP])
  have he1 : (w.alloc (.cells #[.string (bs id), .slice aC cls.length cC, .slice aP prs.length cP] 35)).heap.size = w.heap.size + 1 := by simp
  have HE1 := Lib.hid he1
  clear he1
  obtain ⟨I, HI⟩ : ∃ I, Hid (w.heap.size = I) := ⟨_, rfl⟩
  rw [HI.out] at HB1 HE1
  go_enter Try.func28, Try.ntmps28
  go_wp2_with fail
  generalize w.alloc _ = w1 at *
  have HK2 := Lib.hid (kept_alloc w1 (.cells #[.string (bs id), .slice aC' cls.length cC', .slice aP' prs.length cP'] 35))
  have HB2 := Lib.hid (Blk.new w1 35 #[.string (bs id), .slice aC' cls.length cC', .slice aP' prs.length cP'])
  rw [HE1.out] at HB2
  generalize w1.alloc _ = w2 at *
  rw [HI.out]
  have HKW := Lib.hid (HK1.out.trans HK2.out)
  refine (texts4_eq _ _ cls w2 (H1.out.kept HKW.out) (H3.out.kept HKW.out) l1).mono ?_
  rintro e w3 ⟨rfl, hk3⟩
  have HK3 := Lib.hid (HKW.out.trans hk3)
  have b2 : w3.cell? ⟨I, 2, none⟩ = some (.slice aP prs.length cP) := ((HB1.out.kept HK2.out).kept hk3).cell 2 _ rfl
  have d2 : w3.cell? ⟨I + 1, 2, none⟩ = some (.slice aP' prs.length cP') := (HB2.out.kept hk3).cell 2 _ rfl
  clear hk3 HKW HK1 HK2 HB1 HB2
  go_wp2_with fail
  refine (pairs_eq _ _ prs w3 (H2.out.kept HK3.out) (H4.out.kept HK3.out) l2).mono ?_
  rintro e w4 ⟨rfl, hk4⟩
  have HK4 := Lib.hid (HK3.out.trans hk4)
  clear hk4
  go_wp2_with fail
  go_ret
  exact ⟨rfl, HK4.out⟩
def SamP (w : World) (e : Ending) (w' : World) : Prop := e = .returned (.bool true) ∧ Kept w w'
set_option maxRecDepth 100000 in
set_option maxHeartbeats 6400000 in
theorem sameline_eq : ∀ (n : Nat) (xs : List Inl) (v v' : Value) (w : World), Lns (fun _ => True) n w v xs → Lns (fun _ => True) n w v' xs → xs.length ≤ 1000000 → okIL xs → Calls Try.prog 29 #[v, v'] w (SamP w) := by
  intro n
  induction n with
  | zero =>
    intro xs v v' w hv hv' hl hok
    obtain rfl := hv.no
    obtain ⟨a, c, rfl, hc⟩ := hv.form
    obtain ⟨a', c', rfl, hc'⟩ := hv'.form
    clear hv hv' hok
    go_enter Try.func29, Try.ntmps29
    go_wp2_with fail
    go_loopw [5] (fun i wr => i = .int .i64 0 ∧ w = wr) (fun i _ => 1)
    case atStart => exact ⟨rfl, rfl⟩
    case round =>
      obtain ⟨rfl, rfl⟩ := hrel
      go_wp2_with fail
      (try go_ret)
      exact ⟨rfl, Kept.refl _⟩
  | succ n ih =>
    intro xs v v' w hv hv' hl hok
    have HV := Lib.hid hv
    have HV2 := Lib.hid hv'
    have HOK := Lib.hid hok
    have HIH := Lib.hid ih
    unfold SamP at HIH
    obtain ⟨a, c, rfl, hc⟩ := hv.form
    obtain ⟨a', c', rfl, hc'⟩ := hv'.form
    have HFIN : Hid (∀ w', Kept w w' → SamP w (.returned (.bool true)) w') := fun w' k => ⟨rfl, k⟩
    generalize hP : SamP w = P at *
    clear hv hv' ih hok hP
    go_enter Try.func29, Try.ntmps29
    go_wp2_with fail
    go_loopw [5] (fun i wr => ∃ k : Nat, k ≤ xs.length ∧ i = .int .i64 k ∧ Hid (Kept w wr)) (fun i _ => xs.length - (intOf i).toNat)
    case atStart => exact ⟨0, Nat.zero_le _, rfl, Kept.refl _⟩
    case round =>
      obtain ⟨k, hk, rfl, HKR⟩ := hrel
      by_cases hlt : k < xs.length
      · obtain ⟨x, hx⟩ : ∃ x, xs[k]? = some x := ⟨_, List.getElem?_eq_getElem hlt⟩
        have hfit := (okIL_at HOK.out x (List.mem_of_getElem? hx)).fit
        obtain ⟨g, o, vC, vP, vA, vT, vK, rfl, hgg, hgS, -, -, ⟨d0, d1, d2, d3, d4, d5, d6, d7, d8, d9⟩, -, ⟨hC, iC⟩, ⟨hPP, iP⟩, ⟨hA, iA⟩, hTT, hK⟩ := Lns.at_ (HV.out.kept HKR.out) k x hx
        obtain ⟨g', o', vC', vP', vA', vT', vK', rfl, hgg', hgS', -, -, ⟨d0', d1', d2', d3', d4', d5', d6', d7', d8', d9'⟩, -, ⟨hC', iC'⟩, ⟨hPP', iP'⟩, ⟨hA', iA'⟩, hTT', hK'⟩ := Lns.at_ (HV2.out.kept HKR.out) k x hx
        obtain ⟨kind, text, dest, title, id, cls, prs, args, cits, kids⟩ := x
        simp only [Inl.kind, Inl.text, Inl.dest, Inl.title, Inl.id, Inl.cls, Inl.prs, Inl.args, Inl.cits, Inl.kids] at d0 d1 d2 d3 d4 d0' d1' d2' d3' d4' hC hPP hA hTT hK hC' hPP' hA' hTT' hK' hfit
        obtain ⟨⟨f1, f2, f3, f4, f5, f6, f7, f8, f9⟩, f10⟩ := hfit
        have HC := Lib.hid hC
        have HPP := Lib.hid hPP
        have HA := Lib.hid hA
        have HTT := Lib.hid hTT
        have HKK := Lib.hid hK
        have HC' := Lib.hid hC'
        have HPP' := Lib.hid hPP'
        have HA' := Lib.hid hA'
        have HTT' := Lib.hid hTT'
        have HKK' := Lib.hid hK'
        have HKO := Lib.hid f10
        obtain ⟨aC, cC, rfl, lC⟩ := hC.shape
        obtain ⟨aP, cP, rfl, lP⟩ := hPP.shape
        obtain ⟨aA, cA, rfl, lA⟩ := hA.shape
        obtain ⟨aT, cT, rfl, lT⟩ := hTT.form
        obtain ⟨aK, cK, rfl, lK⟩ := hK.form
        obtain ⟨aC', cC', rfl, lC'⟩ := hC'.shape
        obtain ⟨aP', cP', rfl, lP'⟩ := hPP'.shape
        obtain ⟨aA', cA', rfl, lA'⟩ := hA'.shape
        obtain ⟨aT', cT', rfl, lT'⟩ := hTT'.form
        obtain ⟨aK', cK', rfl, lK'⟩ := hK'.form
        clear hC hPP hA hTT hK hC' hPP' hA' hTT' hK' iC iP iA iC' iP' iA' f10 hx
        go_wp2_with fail
        go_region
        · have hk1 := kept_alloc wr (.cells #[.int .i64 kind, .string (bs text), .string (bs dest), .string (bs title), .string (bs id), .slice aC cls.length cC, .slice aP prs.length cP, .slice aA args.length cA, .slice aT cits.length cT, .slice aK kids.length cK] 41)
          have hb1 := Blk.new wr 41 #[.int .i64 kind, .string (bs text), .string (bs dest), .string (bs title), .string (bs id), .slice aC cls.length cC, .slice aP prs.length cP, .slice aA args.length cA, .slice aT cits.length cT, .slice aK kids.length cK]
          have he1 : (wr.alloc (.cells #[.int .i64 kind, .string (bs text), .string (bs dest), .string (bs title), .string (bs id), .slice aC cls.length cC, .slice aP prs.length cP, .slice aA args.length cA, .slice aT cits.length cT, .slice aK kids.length cK] 41)).heap.size = wr.heap.size + 1 := by simp
          have hk2 := kept_alloc (wr.alloc (.cells #[.int .i64 kind, .string (bs text), .string (bs dest), .string (bs title), .string (bs id), .slice aC cls.length cC, .slice aP prs.length cP, .slice aA args.length cA, .slice aT cits.length cT, .slice aK kids.length cK] 41)) (.cells #[.int .i64 kind, .string (bs text), .string (bs dest), .string (bs title), .string (bs id), .slice aC' cls.length cC', .slice aP' prs.length cP', .slice aA' args.length cA', .slice aT' cits.length cT', .slice aK' kids.length cK'] 41)
          have hb2 := Blk.new (wr.alloc (.cells #[.int .i64 kind, .string (bs text), .string (bs dest), .string (bs title), .string (bs id), .slice aC cls.length cC, .slice aP prs.length cP, .slice aA args.length cA, .slice aT cits.length cT, .slice aK kids.length cK] 41)) 41 #[.int .i64 kind, .string (bs text), .string (bs dest), .string (bs title), .string (bs id), .slice aC' cls.length cC', .slice aP' prs.length cP', .slice aA' args.length cA', .slice aT' cits.length cT', .slice aK' kids.length cK']
          rw [he1] at hb2
          have hkd := kept_drewN ((wr.alloc (.cells #[.int .i64 kind, .string (bs text), .string (bs dest), .string (bs title), .string (bs id), .slice aC cls.length cC, .slice aP prs.length cP, .slice aA args.length cA, .slice aT cits.length cT, .slice aK kids.length cK] 41)).alloc (.cells #[.int .i64 kind, .string (bs text), .string (bs dest), .string (bs title), .string (bs id), .slice aC' cls.length cC', .slice aP' prs.length cP', .slice aA' args.length cA', .slice aT' cits.length cT', .slice aK' kids.length cK'] 41)) 1
          obtain ⟨I, HI⟩ : ∃ I, Hid (wr.heap.size = I) := ⟨_, rfl⟩
          rw [HI.out] at hb1 hb2 ⊢
          have HB1 := Lib.hid ((hb1.kept hk2).kept hkd)
          have HB2 := Lib.hid (hb2.kept hkd)
          have HKW := Lib.hid ((hk1.trans hk2).trans hkd)
          clear hk1 hb1 he1 hk2 hb2 hkd d0 d1 d2 d3 d4 d5 d6 d7 d8 d9 d0' d1' d2' d3' d4' d5' d6' d7' d8' d9'
          generalize hw1 : World.drewN _ 1 = w1 at HB1 HB2 HKW
          (try change Exit.then _ (Exit.inBlock _ (Exit.then _ _)) Exit.normal _ (World.drewN _ 1))
          rw [hw1]
          clear hw1
          have x0 : w1.cell? ⟨I, 0, none⟩ = some (.int .i64 kind) := (HB1.out).cell 0 _ rfl
          have x1 : w1.cell? ⟨I, 1, none⟩ = some (.string (bs text)) := (HB1.out).cell 1 _ rfl
          have x2 : w1.cell? ⟨I, 2, none⟩ = some (.string (bs dest)) := (HB1.out).cell 2 _ rfl
          have x3 : w1.cell? ⟨I, 3, none⟩ = some (.string (bs title)) := (HB1.out).cell 3 _ rfl
          have x4 : w1.cell? ⟨I, 4, none⟩ = some (.string (bs id)) := (HB1.out).cell 4 _ rfl
          have x5 : w1.cell? ⟨I, 5, none⟩ = some (.slice aC cls.length cC) := (HB1.out).cell 5 _ rfl
          have x6 : w1.cell? ⟨I, 6, none⟩ = some (.slice aP prs.length cP) := (HB1.out).cell 6 _ rfl
          have x7 : w1.cell? ⟨I, 7, none⟩ = some (.slice aA args.length cA) := (HB1.out).cell 7 _ rfl
          have x8 : w1.cell? ⟨I, 8, none⟩ = some (.slice aT cits.length cT) := (HB1.out).cell 8 _ rfl
          have x9 : w1.cell? ⟨I, 9, none⟩ = some (.slice aK kids.length cK) := (HB1.out).cell 9 _ rfl
          have y0 : w1.cell? ⟨I + 1, 0, none⟩ = some (.int .i64 kind) := (HB2.out).cell 0 _ rfl
          have y1 : w1.cell? ⟨I + 1, 1, none⟩ = some (.string (bs text)) := (HB2.out).cell 1 _ rfl
          have y2 : w1.cell? ⟨I + 1, 2, none⟩ = some (.string (bs dest)) := (HB2.out).cell 2 _ rfl
          have y3 : w1.cell? ⟨I + 1, 3, none⟩ = some (.string (bs title)) := (HB2.out).cell 3 _ rfl
          have y4 : w1.cell? ⟨I + 1, 4, none⟩ = some (.string (bs id)) := (HB2.out).cell 4 _ rfl
          have y5 : w1.cell? ⟨I + 1, 5, none⟩ = some (.slice aC' cls.length cC') := (HB2.out).cell 5 _ rfl
          have y6 : w1.cell? ⟨I + 1, 6, none⟩ = some (.slice aP' prs.length cP') := (HB2.out).cell 6 _ rfl
          have y7 : w1.cell? ⟨I + 1, 7, none⟩ = some (.slice aA' args.length cA') := (HB2.out).cell 7 _ rfl
          have y8 : w1.cell? ⟨I + 1, 8, none⟩ = some (.slice aT' cits.length cT') := (HB2.out).cell 8 _ rfl
          have y9 : w1.cell? ⟨I + 1, 9, none⟩ = some (.slice aK' kids.length cK') := (HB2.out).cell 9 _ rfl
          go_wp2_with fail
          refine (attrs4_eq id _ _ _ _ cls prs w1 (HC.out.kept HKW.out) (HPP.out.kept HKW.out) (HC'.out.kept HKW.out) (HPP'.out.kept HKW.out) (by omega) (by omega)).mono ?_
          rintro e w2 ⟨rfl, hk2⟩
          have HB1 := Lib.hid (HB1.out.kept hk2)
          have HB2 := Lib.hid (HB2.out.kept hk2)
          have HKW := Lib.hid (HKW.out.trans hk2)
          have x5 : w2.cell? ⟨I, 5, none⟩ = some (.slice aC cls.length cC) := (HB1.out).cell 5 _ rfl
          have x6 : w2.cell? ⟨I, 6, none⟩ = some (.slice aP prs.length cP) := (HB1.out).cell 6 _ rfl
          have x7 : w2.cell? ⟨I, 7, none⟩ = some (.slice aA args.length cA) := (HB1.out).cell 7 _ rfl
          have x8 : w2.cell? ⟨I, 8, none⟩ = some (.slice aT cits.length cT) := (HB1.out).cell 8 _ rfl
          have x9 : w2.cell? ⟨I, 9, none⟩ = some (.slice aK kids.length cK) := (HB1.out).cell 9 _ rfl
          have y5 : w2.cell? ⟨I + 1, 5, none⟩ = some (.slice aC' cls.length cC') := (HB2.out).cell 5 _ rfl
          have y6 : w2.cell? ⟨I + 1, 6, none⟩ = some (.slice aP' prs.length cP') := (HB2.out).cell 6 _ rfl
          have y7 : w2.cell? ⟨I + 1, 7, none⟩ = some (.slice aA' args.length cA') := (HB2.out).cell 7 _ rfl
          have y8 : w2.cell? ⟨I + 1, 8, none⟩ = some (.slice aT' cits.length cT') := (HB2.out).cell 8 _ rfl
          have y9 : w2.cell? ⟨I + 1, 9, none⟩ = some (.slice aK' kids.length cK') := (HB2.out).cell 9 _ rfl
          clear hk2
          go_wp2_with fail
          refine (texts4_eq _ _ args w2 (HA.out.kept HKW.out) (HA'.out.kept HKW.out) (by omega)).mono ?_
          rintro e w3 ⟨rfl, hk3⟩
          have HB1 := Lib.hid (HB1.out.kept hk3)
          have HB2 := Lib.hid (HB2.out.kept hk3)
          have HKW := Lib.hid (HKW.out.trans hk3)
          have x8 : w3.cell? ⟨I, 8, none⟩ = some (.slice aT cits.length cT) := (HB1.out).cell 8 _ rfl
          have x9 : w3.cell? ⟨I, 9, none⟩ = some (.slice aK kids.length cK) := (HB1.out).cell 9 _ rfl
          have y8 : w3.cell? ⟨I + 1, 8, none⟩ = some (.slice aT' cits.length cT') := (HB2.out).cell 8 _ rfl
          have y9 : w3.cell? ⟨I + 1, 9, none⟩ = some (.slice aK' kids.length cK') := (HB2.out).cell 9 _ rfl
          clear hk3
          go_wp2_with fail
          refine (HIH.out kids _ _ w3 (HKK.out.kept HKW.out) (HKK'.out.kept HKW.out) f9 HKO.out).mono ?_
          rintro e w4 ⟨rfl, hk4⟩
          have HB1 := Lib.hid (HB1.out.kept hk4)
          have HB2 := Lib.hid (HB2.out.kept hk4)
          have HKW := Lib.hid (HKW.out.trans hk4)
          clear hk4
          go_wp2_with fail
          go_loopw [8] (fun i wr => ∃ j : Nat, j ≤ cits.length ∧ i = .int .i64 j ∧ Hid (Kept w4 wr)) (fun i _ => cits.length - (intOf i).toNat)
          case atStart => exact ⟨0, Nat.zero_le _, rfl, Kept.refl _⟩
          case round =>
            obtain ⟨j, hj, rfl, HKJ⟩ := hrel
            have x8 : wr.cell? ⟨I, 8, none⟩ = some (.slice aT cits.length cT) := ((HB1.out.kept HKJ.out)).cell 8 _ rfl
            have y8 : wr.cell? ⟨I + 1, 8, none⟩ = some (.slice aT' cits.length cT') := ((HB2.out.kept HKJ.out)).cell 8 _ rfl
            by_cases hjl : j < cits.length
            · obtain ⟨z, hz⟩ : ∃ z, cits[j]? = some z := ⟨_, List.getElem?_eq_getElem hjl⟩
              have hT1 := HTT.out.sam (S' := fun _ => True) (Sam.kept (HKW.out.trans HKJ.out)) (fun _ _ _ => trivial)
              have hT2 := HTT'.out.sam (S' := fun _ => True) (Sam.kept (HKW.out.trans HKJ.out)) (fun _ _ _ => trivial)
              obtain ⟨gt, ot, cs, rfl, _, -, hcl, hcell, hW, -, -⟩ := RowR.at_ hT1 j z hz
              obtain ⟨gt', ot', cs', rfl, _, -, hcl', hcell', hW', -, -⟩ := RowR.at_ hT2 j z hz
              unfold CitW at hW hW'
              subst hW; subst hW'
              have t0 := hcell 0 _ rfl
              have t1 := hcell 1 _ rfl
              have t2 := hcell 2 _ rfl
              have t3 := hcell 3 _ rfl
              have u0 := hcell' 0 _ rfl
              have u1 := hcell' 1 _ rfl
              have u2 := hcell' 2 _ rfl
              have u3 := hcell' 3 _ rfl
              rw [Nat.add_zero] at t0 u0
              clear hT1 hT2 hcell hcell' hcl hcl' hz HTT HTT'
              go_wp2_with fail
              go_region
              all_goals
                go_wp2_with fail
                go_roundw
                case rel => exact ⟨j + 1, by omega, by go_num, HKJ.out.trans (kept_drewN _ _)⟩
                case measure => simp [intOf]; omega
            · have HKZ := Lib.hid ((HKR.out.trans HKW.out).trans HKJ.out)
              clear HTT HTT' HB1 HB2 HKR HKW HKJ
              go_wp2_with fail
              go_roundw
              case rel => exact ⟨k + 1, by omega, by go_num, HKZ.out⟩
              case measure => simp [intOf]; omega
        · have hk1 := kept_alloc wr (.cells #[.int .i64 kind, .string (bs text), .string (bs dest), .string (bs title), .string (bs id), .slice aC' cls.length cC', .slice aP' prs.length cP', .slice aA' args.length cA', .slice aT' cits.length cT', .slice aK' kids.length cK'] 41)
          have hb1 := Blk.new wr 41 #[.int .i64 kind, .string (bs text), .string (bs dest), .string (bs title), .string (bs id), .slice aC' cls.length cC', .slice aP' prs.length cP', .slice aA' args.length cA', .slice aT' cits.length cT', .slice aK' kids.length cK']
          have he1 : (wr.alloc (.cells #[.int .i64 kind, .string (bs text), .string (bs dest), .string (bs title), .string (bs id), .slice aC' cls.length cC', .slice aP' prs.length cP', .slice aA' args.length cA', .slice aT' cits.length cT', .slice aK' kids.length cK'] 41)).heap.size = wr.heap.size + 1 := by simp
          have hk2 := kept_alloc (wr.alloc (.cells #[.int .i64 kind, .string (bs text), .string (bs dest), .string (bs title), .string (bs id), .slice aC' cls.length cC', .slice aP' prs.length cP', .slice aA' args.length cA', .slice aT' cits.length cT', .slice aK' kids.length cK'] 41)) (.cells #[.int .i64 kind, .string (bs text), .string (bs dest), .string (bs title), .string (bs id), .slice aC cls.length cC, .slice aP prs.length cP, .slice aA args.length cA, .slice aT cits.length cT, .slice aK kids.length cK] 41)
          have hb2 := Blk.new (wr.alloc (.cells #[.int .i64 kind, .string (bs text), .string (bs dest), .string (bs title), .string (bs id), .slice aC' cls.length cC', .slice aP' prs.length cP', .slice aA' args.length cA', .slice aT' cits.length cT', .slice aK' kids.length cK'] 41)) 41 #[.int .i64 kind, .string (bs text), .string (bs dest), .string (bs title), .string (bs id), .slice aC cls.length cC, .slice aP prs.length cP, .slice aA args.length cA, .slice aT cits.length cT, .slice aK kids.length cK]
          rw [he1] at hb2
          have hkd := kept_drewN ((wr.alloc (.cells #[.int .i64 kind, .string (bs text), .string (bs dest), .string (bs title), .string (bs id), .slice aC' cls.length cC', .slice aP' prs.length cP', .slice aA' args.length cA', .slice aT' cits.length cT', .slice aK' kids.length cK'] 41)).alloc (.cells #[.int .i64 kind, .string (bs text), .string (bs dest), .string (bs title), .string (bs id), .slice aC cls.length cC, .slice aP prs.length cP, .slice aA args.length cA, .slice aT cits.length cT, .slice aK kids.length cK] 41)) 1
          obtain ⟨I, HI⟩ : ∃ I, Hid (wr.heap.size = I) := ⟨_, rfl⟩
          rw [HI.out] at hb1 hb2 ⊢
          have HB1 := Lib.hid ((hb1.kept hk2).kept hkd)
          have HB2 := Lib.hid (hb2.kept hkd)
          have HKW := Lib.hid ((hk1.trans hk2).trans hkd)
          clear hk1 hb1 he1 hk2 hb2 hkd d0 d1 d2 d3 d4 d5 d6 d7 d8 d9 d0' d1' d2' d3' d4' d5' d6' d7' d8' d9'
          generalize hw1 : World.drewN _ 1 = w1 at HB1 HB2 HKW
          (try change Exit.then _ (Exit.inBlock _ (Exit.then _ _)) Exit.normal _ (World.drewN _ 1))
          rw [hw1]
          clear hw1
          have x0 : w1.cell? ⟨I + 1, 0, none⟩ = some (.int .i64 kind) := (HB2.out).cell 0 _ rfl
          have x1 : w1.cell? ⟨I + 1, 1, none⟩ = some (.string (bs text)) := (HB2.out).cell 1 _ rfl
          have x2 : w1.cell? ⟨I + 1, 2, none⟩ = some (.string (bs dest)) := (HB2.out).cell 2 _ rfl
          have x3 : w1.cell? ⟨I + 1, 3, none⟩ = some (.string (bs title)) := (HB2.out).cell 3 _ rfl
          have x4 : w1.cell? ⟨I + 1, 4, none⟩ = some (.string (bs id)) := (HB2.out).cell 4 _ rfl
          have x5 : w1.cell? ⟨I + 1, 5, none⟩ = some (.slice aC cls.length cC) := (HB2.out).cell 5 _ rfl
          have x6 : w1.cell? ⟨I + 1, 6, none⟩ = some (.slice aP prs.length cP) := (HB2.out).cell 6 _ rfl
          have x7 : w1.cell? ⟨I + 1, 7, none⟩ = some (.slice aA args.length cA) := (HB2.out).cell 7 _ rfl
          have x8 : w1.cell? ⟨I + 1, 8, none⟩ = some (.slice aT cits.length cT) := (HB2.out).cell 8 _ rfl
          have x9 : w1.cell? ⟨I + 1, 9, none⟩ = some (.slice aK kids.length cK) := (HB2.out).cell 9 _ rfl
          have y0 : w1.cell? ⟨I, 0, none⟩ = some (.int .i64 kind) := (HB1.out).cell 0 _ rfl
          have y1 : w1.cell? ⟨I, 1, none⟩ = some (.string (bs text)) := (HB1.out).cell 1 _ rfl
          have y2 : w1.cell? ⟨I, 2, none⟩ = some (.string (bs dest)) := (HB1.out).cell 2 _ rfl
          have y3 : w1.cell? ⟨I, 3, none⟩ = some (.string (bs title)) := (HB1.out).cell 3 _ rfl
          have y4 : w1.cell? ⟨I, 4, none⟩ = some (.string (bs id)) := (HB1.out).cell 4 _ rfl
          have y5 : w1.cell? ⟨I, 5, none⟩ = some (.slice aC' cls.length cC') := (HB1.out).cell 5 _ rfl
          have y6 : w1.cell? ⟨I, 6, none⟩ = some (.slice aP' prs.length cP') := (HB1.out).cell 6 _ rfl
          have y7 : w1.cell? ⟨I, 7, none⟩ = some (.slice aA' args.length cA') := (HB1.out).cell 7 _ rfl
          have y8 : w1.cell? ⟨I, 8, none⟩ = some (.slice aT' cits.length cT') := (HB1.out).cell 8 _ rfl
          have y9 : w1.cell? ⟨I, 9, none⟩ = some (.slice aK' kids.length cK') := (HB1.out).cell 9 _ rfl
          go_wp2_with fail
          refine (attrs4_eq id _ _ _ _ cls prs w1 (HC.out.kept HKW.out) (HPP.out.kept HKW.out) (HC'.out.kept HKW.out) (HPP'.out.kept HKW.out) (by omega) (by omega)).mono ?_
          rintro e w2 ⟨rfl, hk2⟩
          have HB1 := Lib.hid (HB1.out.kept hk2)
          have HB2 := Lib.hid (HB2.out.kept hk2)
          have HKW := Lib.hid (HKW.out.trans hk2)
          have x5 : w2.cell? ⟨I + 1, 5, none⟩ = some (.slice aC cls.length cC) := (HB2.out).cell 5 _ rfl
          have x6 : w2.cell? ⟨I + 1, 6, none⟩ = some (.slice aP prs.length cP) := (HB2.out).cell 6 _ rfl
          have x7 : w2.cell? ⟨I + 1, 7, none⟩ = some (.slice aA args.length cA) := (HB2.out).cell 7 _ rfl
          have x8 : w2.cell? ⟨I + 1, 8, none⟩ = some (.slice aT cits.length cT) := (HB2.out).cell 8 _ rfl
          have x9 : w2.cell? ⟨I + 1, 9, none⟩ = some (.slice aK kids.length cK) := (HB2.out).cell 9 _ rfl
          have y5 : w2.cell? ⟨I, 5, none⟩ = some (.slice aC' cls.length cC') := (HB1.out).cell 5 _ rfl
          have y6 : w2.cell? ⟨I, 6, none⟩ = some (.slice aP' prs.length cP') := (HB1.out).cell 6 _ rfl
          have y7 : w2.cell? ⟨I, 7, none⟩ = some (.slice aA' args.length cA') := (HB1.out).cell 7 _ rfl
          have y8 : w2.cell? ⟨I, 8, none⟩ = some (.slice aT' cits.length cT') := (HB1.out).cell 8 _ rfl
          have y9 : w2.cell? ⟨I, 9, none⟩ = some (.slice aK' kids.length cK') := (HB1.out).cell 9 _ rfl
          clear hk2
          go_wp2_with fail
          refine (texts4_eq _ _ args w2 (HA.out.kept HKW.out) (HA'.out.kept HKW.out) (by omega)).mono ?_
          rintro e w3 ⟨rfl, hk3⟩
          have HB1 := Lib.hid (HB1.out.kept hk3)
          have HB2 := Lib.hid (HB2.out.kept hk3)
          have HKW := Lib.hid (HKW.out.trans hk3)
          have x8 : w3.cell? ⟨I + 1, 8, none⟩ = some (.slice aT cits.length cT) := (HB2.out).cell 8 _ rfl
          have x9 : w3.cell? ⟨I + 1, 9, none⟩ = some (.slice aK kids.length cK) := (HB2.out).cell 9 _ rfl
          have y8 : w3.cell? ⟨I, 8, none⟩ = some (.slice aT' cits.length cT') := (HB1.out).cell 8 _ rfl
          have y9 : w3.cell? ⟨I, 9, none⟩ = some (.slice aK' kids.length cK') := (HB1.out).cell 9 _ rfl
          clear hk3
          go_wp2_with fail
          refine (HIH.out kids _ _ w3 (HKK.out.kept HKW.out) (HKK'.out.kept HKW.out) f9 HKO.out).mono ?_
          rintro e w4 ⟨rfl, hk4⟩
          have HB1 := Lib.hid (HB1.out.kept hk4)
          have HB2 := Lib.hid (HB2.out.kept hk4)
          have HKW := Lib.hid (HKW.out.trans hk4)
          clear hk4
          go_wp2_with fail
          go_loopw [8] (fun i wr => ∃ j : Nat, j ≤ cits.length ∧ i = .int .i64 j ∧ Hid (Kept w4 wr)) (fun i _ => cits.length - (intOf i).toNat)
          case atStart => exact ⟨0, Nat.zero_le _, rfl, Kept.refl _⟩
          case round =>
            obtain ⟨j, hj, rfl, HKJ⟩ := hrel
            have x8 : wr.cell? ⟨I + 1, 8, none⟩ = some (.slice aT cits.length cT) := ((HB2.out.kept HKJ.out)).cell 8 _ rfl
            have y8 : wr.cell? ⟨I, 8, none⟩ = some (.slice aT' cits.length cT') := ((HB1.out.kept HKJ.out)).cell 8 _ rfl
            by_cases hjl : j < cits.length
            · obtain ⟨z, hz⟩ : ∃ z, cits[j]? = some z := ⟨_, List.getElem?_eq_getElem hjl⟩
              have hT1 := HTT.out.sam (S' := fun _ => True) (Sam.kept (HKW.out.trans HKJ.out)) (fun _ _ _ => trivial)
              have hT2 := HTT'.out.sam (S' := fun _ => True) (Sam.kept (HKW.out.trans HKJ.out)) (fun _ _ _ => trivial)
              obtain ⟨gt, ot, cs, rfl, _, -, hcl, hcell, hW, -, -⟩ := RowR.at_ hT1 j z hz
              obtain ⟨gt', ot', cs', rfl, _, -, hcl', hcell', hW', -, -⟩ := RowR.at_ hT2 j z hz
              unfold CitW at hW hW'
              subst hW; subst hW'
              have t0 := hcell 0 _ rfl
              have t1 := hcell 1 _ rfl
              have t2 := hcell 2 _ rfl
              have t3 := hcell 3 _ rfl
              have u0 := hcell' 0 _ rfl
              have u1 := hcell' 1 _ rfl
              have u2 := hcell' 2 _ rfl
              have u3 := hcell' 3 _ rfl
              rw [Nat.add_zero] at t0 u0
              clear hT1 hT2 hcell hcell' hcl hcl' hz HTT HTT'
              go_wp2_with fail
              go_region
              all_goals
                go_wp2_with fail
                go_roundw
                case rel => exact ⟨j + 1, by omega, by go_num, HKJ.out.trans (kept_drewN _ _)⟩
                case measure => simp [intOf]; omega
            · have HKZ := Lib.hid ((HKR.out.trans HKW.out).trans HKJ.out)
              clear HTT HTT' HB1 HB2 HKR HKW HKJ
              go_wp2_with fail
              go_roundw
              case rel => exact ⟨k + 1, by omega, by go_num, HKZ.out⟩
              case measure => simp [intOf]; omega
      · obtain rfl : k = xs.length := by omega
        go_wp2_with fail
        (try go_ret)
        exact HFIN.out _ HKR.out
end Go.Proofs.Ythbnahagfojfbaa
