/- What is known of the definitions of a document: the survey in memory. No condition. -/
import Derived.Test.YthbnahagfojfbaaG20
import Derived.Test.YthbnahagfojfbaaG19
import Derived.Test.YthbnahagfojfbaaG13
import Derived.Test.YthbnahagfojfbaaG14
import Derived.BigQuiet
import Derived.Deep.RegionLaw
import Derived.Sort.WalkA
import Derived.Deep.RegionWith
import Derived.Deep.MidRow

set_option linter.all false
namespace Go.Proofs.Ythbnahagfojfbaa
open Go.RowKit

/-- The entries of the map of wants. -/
def wantsE (v : Value) (us : List Inl) : List (Int × Value) := match us with | [] => [] | _ => [(-1, v)]
/-- The survey: the names, the uses outside, the identifiers at most. -/
structure SvJ (N D B : Nat) (ns : List Bs) (ps : List Int) (nn : List Bs) (us : List Inl) (ids : List Bs) (w : World) (v1 v2 v3 : Value) (esN esI : List (Bs × Value)) : Prop where
  blk : Blk w (B + 5) 93 #[v1, v2, .map (some (B + 1)), .map (some (B + 2)), .map (some (B + 3)), .map (some (B + 4)), .slice none 0 0, .slice none 0 0]
  names : OutG StrK 1 (fun _ => False) (B + 6) 9 w v1 ns
  pars : OutG IntK 1 (fun _ => False) (B + 6) 3 w v2 ps
  wants : OutG (InlK N) 10 (fun g => g < D) (B + 6) 41 w v3 us
  nil : us = [] → v3 = .slice none 0 0
  mw : MapV w (B + 1) (wantsE v3 us)
  mn : MapT w (B + 2) esN
  mi : MapT w (B + 3) esI
  mt : MapT w (B + 4) []
  inn : ∀ (i : Nat) (nm : Bs), nn[i]? = some nm → getT esN nm = some (.int .i64 i)
  out : ∀ k, k ∉ nn → getT esN k = none
  ids : ∀ k, k ∉ ids → getT esI k = none
def SvI (N D B : Nat) (ns : List Bs) (us : List Inl) (ids : List Bs) (w : World) : Prop := ∃ v1 v2 v3 esN esI, SvJ N D B ns (List.replicate ns.length (-1)) ns us ids w v1 v2 v3 esN esI
theorem SvJ.kept {N D B : Nat} {ns : List Bs} {ps : List Int} {nn : List Bs} {us : List Inl} {ids : List Bs} {w w' : World} {v1 v2 v3 : Value} {esN esI : List (Bs × Value)} (h : SvJ N D B ns ps nn us ids w v1 v2 v3 esN esI) (k : Kept w w') : SvJ N D B ns ps nn us ids w' v1 v2 v3 esN esI :=
  ⟨h.blk.kept k, h.names.kept strK k, h.pars.kept intK k, h.wants.kept (inlK N) k, h.nil, h.mw.kept k, h.mn.kept k, h.mi.kept k, h.mt.kept k, h.inn, h.out, h.ids⟩
theorem SvI.kept {N D B : Nat} {ns : List Bs} {us : List Inl} {ids : List Bs} {w w' : World} (h : SvI N D B ns us ids w) (k : Kept w w') : SvI N D B ns us ids w' := by
  obtain ⟨v1, v2, v3, esN, esI, h⟩ := h
  exact ⟨v1, v2, v3, esN, esI, h.kept k⟩
/-- The wants have grown by one. -/
theorem SvJ.more {N D B : Nat} {ns : List Bs} {ps : List Int} {nn : List Bs} {us : List Inl} {ids : List Bs} {w w7 : World} {v1 v2 v3 v7 : Value} {esN esI : List (Bs × Value)} {x : Inl} (h : SvJ N D B ns ps nn us ids w v1 v2 v3 esN esI) (hD : D ≤ B) (hg : w.grownBy w7 v3.ownBlock) (ho : OutG (InlK N) 10 (fun g => g < D) (B + 6) 41 w7 v7 (us ++ [x])) :
    SvJ N D B ns ps nn (us ++ [x]) ids (putV w7 (B + 1) [(-1, v7)]) v1 v2 v7 esN esI ∧ Only (fun i => B + 1 ≤ i) w (putV w7 (B + 1) [(-1, v7)]) := by
  have o1 := Only.grown hg
  have hb : ∀ g, v3.ownBlock = some g → B + 6 ≤ g := fun g q => (h.wants.blk g q).1
  have o2 := putV_only w7 (B + 1) [(-1, v7)]
  have hM := h.mw.only o1 (fun q => by have := hb _ q.symm; omega)
  refine ⟨⟨?_, ?_, ?_, ?_, fun q => absurd q (by simp), ?_, ?_, ?_, ?_, h.inn, h.out, h.ids⟩, (o1.mono (fun i _ q => by have := hb i q.symm; omega)).trans (o2.mono (fun i _ q => by omega))⟩
  · refine Blk.onl (Blk.onl h.blk o1 (fun q => by have := hb _ q.symm; omega)) o2 (by omega)
  · exact (h.names.only strK o1 (fun _ _ h => h.elim) (fun g q r => h.names.ne h.wants (by decide) g q r.symm)).only strK o2 (fun _ _ h => h.elim) (fun g q r => by have := (h.names.blk g q).1; omega)
  · exact (h.pars.only intK o1 (fun _ _ h => h.elim) (fun g q r => h.pars.ne h.wants (by decide) g q r.symm)).only intK o2 (fun _ _ h => h.elim) (fun g q r => by have := (h.pars.blk g q).1; omega)
  · exact ho.only (inlK N) o2 (fun g _ q _ r => by omega) (fun g q r => by have := (ho.blk g q).1; omega)
  · have e : wantsE v7 (us ++ [x]) = [(-1, v7)] := by cases us <;> rfl
    rw [e]
    exact putV_map w7 (B + 1) _ hM.lt
  · exact (h.mn.only o1 (fun q => by have := hb _ q.symm; omega)).only o2 (by omega)
  · exact (h.mi.only o1 (fun q => by have := hb _ q.symm; omega)).only o2 (by omega)
  · exact (h.mt.only o1 (fun q => by have := hb _ q.symm; omega)).only o2 (by omega)
/-- The names have grown by one. -/
theorem SvJ.moreN {N D B : Nat} {ns : List Bs} {ps : List Int} {nn : List Bs} {us : List Inl} {ids : List Bs} {w w7 : World} {v1 v2 v3 v7 : Value} {esN esI : List (Bs × Value)} {x : Bs} (h : SvJ N D B ns ps nn us ids w v1 v2 v3 esN esI) (hD : D ≤ B) (hg : w.grownBy w7 v1.ownBlock) (ho : OutG StrK 1 (fun _ => False) (B + 6) 9 w7 v7 (ns ++ [x])) :
    SvJ N D B (ns ++ [x]) ps nn us ids (w7.setCell ⟨B + 5, 0, none⟩ v7) v7 v2 v3 esN esI ∧ Only (fun i => B + 1 ≤ i) w (w7.setCell ⟨B + 5, 0, none⟩ v7) := by
  have o1 := Only.grown hg
  have hb : ∀ g, v1.ownBlock = some g → B + 6 ≤ g := fun g q => (h.names.blk g q).1
  have o2 := Only.setCell (w := w7) (B + 5) 0 v7
  have hY := Blk.onl h.blk o1 (fun q => by have := hb _ q.symm; omega)
  refine ⟨⟨hY.set 0 v7, ?_, ?_, ?_, h.nil, ?_, ?_, ?_, ?_, h.inn, h.out, h.ids⟩, (o1.mono (fun i _ q => by have := hb i q.symm; omega)).trans (o2.mono (fun i _ q => by omega))⟩
  · exact ho.only strK o2 (fun _ _ h => h.elim) (fun g q r => by have := (ho.blk g q).1; omega)
  · exact (h.pars.only intK o1 (fun _ _ h => h.elim) (fun g q r => h.pars.ne h.names (by decide) g q r.symm)).only intK o2 (fun _ _ h => h.elim) (fun g q r => by have := (h.pars.blk g q).1; omega)
  · exact (h.wants.only (inlK N) o1 (fun g _ q _ r => by have := hb g r.symm; omega) (fun g q r => h.wants.ne h.names (by decide) g q r.symm)).only (inlK N) o2 (fun g _ q _ r => by omega) (fun g q r => by have := (h.wants.blk g q).1; omega)
  · exact (h.mw.only o1 (fun q => by have := hb _ q.symm; omega)).only o2 (by omega)
  · exact (h.mn.only o1 (fun q => by have := hb _ q.symm; omega)).only o2 (by omega)
  · exact (h.mi.only o1 (fun q => by have := hb _ q.symm; omega)).only o2 (by omega)
  · exact (h.mt.only o1 (fun q => by have := hb _ q.symm; omega)).only o2 (by omega)
/-- The parents have grown by one. -/
theorem SvJ.moreP {N D B : Nat} {ns : List Bs} {ps : List Int} {nn : List Bs} {us : List Inl} {ids : List Bs} {w w7 : World} {v1 v2 v3 v7 : Value} {esN esI : List (Bs × Value)} {x : Int} (h : SvJ N D B ns ps nn us ids w v1 v2 v3 esN esI) (hD : D ≤ B) (hg : w.grownBy w7 v2.ownBlock) (ho : OutG IntK 1 (fun _ => False) (B + 6) 3 w7 v7 (ps ++ [x])) :
    SvJ N D B ns (ps ++ [x]) nn us ids (w7.setCell ⟨B + 5, 1, none⟩ v7) v1 v7 v3 esN esI ∧ Only (fun i => B + 1 ≤ i) w (w7.setCell ⟨B + 5, 1, none⟩ v7) := by
  have o1 := Only.grown hg
  have hb : ∀ g, v2.ownBlock = some g → B + 6 ≤ g := fun g q => (h.pars.blk g q).1
  have o2 := Only.setCell (w := w7) (B + 5) 1 v7
  have hY := Blk.onl h.blk o1 (fun q => by have := hb _ q.symm; omega)
  refine ⟨⟨hY.set 1 v7, ?_, ?_, ?_, h.nil, ?_, ?_, ?_, ?_, h.inn, h.out, h.ids⟩, (o1.mono (fun i _ q => by have := hb i q.symm; omega)).trans (o2.mono (fun i _ q => by omega))⟩
  · exact (h.names.only strK o1 (fun _ _ h => h.elim) (fun g q r => h.names.ne h.pars (by decide) g q r.symm)).only strK o2 (fun _ _ h => h.elim) (fun g q r => by have := (h.names.blk g q).1; omega)
  · exact ho.only intK o2 (fun _ _ h => h.elim) (fun g q r => by have := (ho.blk g q).1; omega)
  · exact (h.wants.only (inlK N) o1 (fun g _ q _ r => by have := hb g r.symm; omega) (fun g q r => h.wants.ne h.pars (by decide) g q r.symm)).only (inlK N) o2 (fun g _ q _ r => by omega) (fun g q r => by have := (h.wants.blk g q).1; omega)
  · exact (h.mw.only o1 (fun q => by have := hb _ q.symm; omega)).only o2 (by omega)
  · exact (h.mn.only o1 (fun q => by have := hb _ q.symm; omega)).only o2 (by omega)
  · exact (h.mi.only o1 (fun q => by have := hb _ q.symm; omega)).only o2 (by omega)
  · exact (h.mt.only o1 (fun q => by have := hb _ q.symm; omega)).only o2 (by omega)
/-- Other blocks above the survey's maps change, one of the maps of identifiers with them. -/
theorem SvJ.maps {T : Nat → Prop} {N D B : Nat} {ns : List Bs} {ps : List Int} {nn nn' : List Bs} {us : List Inl} {ids ids' : List Bs} {w w' : World} {v1 v2 v3 : Value} {esN esI esN' esI' : List (Bs × Value)} (h : SvJ N D B ns ps nn us ids w v1 v2 v3 esN esI) (hD : D ≤ B) (k : Only T w w') (hT : ∀ i, T i → i = B + 2 ∨ i = B + 3)
    (mn : MapT w' (B + 2) esN') (mi : MapT w' (B + 3) esI') (inn : ∀ (i : Nat) (nm : Bs), nn'[i]? = some nm → getT esN' nm = some (.int .i64 i)) (out : ∀ k, k ∉ nn' → getT esN' k = none) (hids : ∀ k, k ∉ ids' → getT esI' k = none) :
    SvJ N D B ns ps nn' us ids' w' v1 v2 v3 esN' esI' :=
  ⟨h.blk.onl k (fun q => by have := hT _ q; omega), h.names.only strK k (fun _ _ h => h.elim) (fun g q r => by have := (h.names.blk g q).1; have := hT _ r; omega), h.pars.only intK k (fun _ _ h => h.elim) (fun g q r => by have := (h.pars.blk g q).1; have := hT _ r; omega),
   h.wants.only (inlK N) k (fun g _ q _ r => by have := hT _ r; omega) (fun g q r => by have := (h.wants.blk g q).1; have := hT _ r; omega), h.nil, h.mw.only k (fun q => by have := hT _ q; omega), mn, mi, h.mt.only k (fun q => by have := hT _ q; omega), inn, out, hids⟩
/-- What a walk of the survey leaves alone: all below its maps, and every block that holds a document's block. -/
structure FrB (B : Nat) (w w' : World) : Prop where
  only : Only (fun i => B + 1 ≤ i) w w'
  blk : ∀ (g : Nat) (cs : Array Value), Blk w g 37 cs → Blk w' g 37 cs
theorem FrB.of_kept {B : Nat} {w w' : World} (h : Kept w w') : FrB B w w' := ⟨Only.of_kept h, fun _ _ q => q.kept h⟩
theorem FrB.trans {B : Nat} {a b c : World} (h : FrB B a b) (k : FrB B b c) : FrB B a c := ⟨h.only.trans k.only, fun g cs q => k.blk g cs (h.blk g cs q)⟩
theorem FrB.size {B : Nat} {w w' : World} (h : FrB B w w') : w.heap.size ≤ w'.heap.size := h.only.size
/-- One row of other elements, and one other block, change. -/
theorem FrB.grown {α : Type} {R : (Nat → Prop) → World → List Value → α → Prop} {k : Nat} {A : Nat → Prop} {base : Nat} {e : TypeId} {v : Value} {xs : List α} {B m : Nat} {w w7 w' : World} (ho : OutG R k A base e w v xs) (hne : e ≠ 37) (hg : w.grownBy w7 v.ownBlock) (ho2 : Only (fun i => i = m) w7 w') (honly : Only (fun i => B + 1 ≤ i) w w') (hm : ∀ cs, ¬ Blk w m 37 cs) : FrB B w w' :=
  ⟨honly, fun g cs q => (q.onl (Only.grown hg) (fun r => ho.ne_blk q hne r.symm)).onl ho2 (fun r => by subst r; exact hm _ q)⟩
theorem map_no_blk {w : World} {m : Nat} {es : List (Int × Value)} (h : MapV w m es) {t : TypeId} {cs : Array Value} : ¬ Blk w m t cs := by
  intro q
  have h1 : w.heap[m]? = some (.cells cs t (0, 0)) := q
  have h2 : w.heap[m]? = some (.map (entsV es) es.length) := h
  rw [h1] at h2; cases h2
theorem mapT_no_blk {w : World} {m : Nat} {es : List (Bs × Value)} (h : MapT w m es) {t : TypeId} {cs : Array Value} : ¬ Blk w m t cs := by
  intro q
  have h1 : w.heap[m]? = some (.cells cs t (0, 0)) := q
  have h2 : w.heap[m]? = some (.map (entsT es) es.length) := h
  rw [h1] at h2; cases h2
theorem blk_no_blk {w : World} {m : Nat} {t t' : TypeId} {cs cs' : Array Value} (h : Blk w m t cs) (hne : t ≠ t') : ¬ Blk w m t' cs' := by
  intro q
  have h1 : w.heap[m]? = some (.cells cs t (0, 0)) := h
  have h2 : w.heap[m]? = some (.cells cs' t' (0, 0)) := q
  rw [h1] at h2; cases h2; exact hne rfl
/-- What the survey asks of a line: no identifiers, no references. -/
def quietI (x : Inl) : Prop := x.id = [] ∧ x.kind ≠ 14 ∧ x.kind ≠ 9 ∧ x.kind ≠ 12
theorem deepL_mem {xs : List Inl} {x : Inl} (h : x ∈ xs) : x ∈ deepL xs ∧ ∀ y ∈ deepL x.kids, y ∈ deepL xs := by
  induction xs with
  | nil => cases h
  | cons z xs ih =>
    show x ∈ deep1 z ++ deepL xs ∧ ∀ y ∈ deepL x.kids, y ∈ deep1 z ++ deepL xs
    rcases List.mem_cons.1 h with rfl | h
    · rw [deep1_eq]
      exact ⟨by simp, fun y hy => by simp [hy]⟩
    · obtain ⟨a, b⟩ := ih h
      exact ⟨List.mem_append.2 (.inr a), fun y hy => List.mem_append.2 (.inr (b y hy))⟩
end Go.Proofs.Ythbnahagfojfbaa

/- filler.line: filled copies of inlines. Conditions: lengths. -/
set_option linter.all false
namespace Go.Proofs.Ythbnahagfojfbaa
open Go.RowKit

def linkSel (b : Bool) (id nm : Bs) (k : List Inl) : List Inl := match b with | true => [linkI id nm k] | false => k
mutual
/-- A filled copy of an inline. -/
def line1 (ids : Bs → Bs) (cov : Bool) : Inl → Inl
  | .mk kind text dest title id cls prs args cits kids =>
    .mk kind text dest title id cls prs args cits (linkSel (isUse (.mk kind text dest title id cls prs args cits kids) && (!cov && !hasRefL kids)) (ids (useName (.mk kind text dest title id cls prs args cits kids))) (useName (.mk kind text dest title id cls prs args cits kids)) (lineL ids (cov || (isUse (.mk kind text dest title id cls prs args cits kids) || kind == 9)) kids))
def lineL (ids : Bs → Bs) (cov : Bool) : List Inl → List Inl
  | [] => []
  | x :: xs => line1 ids cov x :: lineL ids cov xs
end
theorem lineL_len (ids : Bs → Bs) (cov : Bool) : ∀ xs, (lineL ids cov xs).length = xs.length
  | [] => rfl
  | x :: xs => by show (line1 ids cov x :: lineL ids cov xs).length = _; rw [List.length_cons, lineL_len ids cov xs]; rfl
theorem lineL_app (ids : Bs → Bs) (cov : Bool) : ∀ xs ys, lineL ids cov (xs ++ ys) = lineL ids cov xs ++ lineL ids cov ys
  | [], _ => rfl
  | x :: xs, ys => by show line1 ids cov x :: lineL ids cov (xs ++ ys) = _; rw [lineL_app ids cov xs ys]; rfl
theorem lineL_take {ids : Bs → Bs} {cov : Bool} {xs : List Inl} {k : Nat} {x : Inl} (h : xs[k]? = some x) : lineL ids cov (xs.take (k + 1)) = lineL ids cov (xs.take k) ++ [line1 ids cov x] := by
  rw [take_snoc h, lineL_app]; rfl
/-- A filler in memory. -/
structure FilC (F Mi Mn : Nat) (fv : Value) (esI : List (Bs × Value)) (ks : List Bs) (ids : Bs → Bs) (w : World) : Prop where
  blk : Blk w F 70 #[.map (some Mi), .map (some Mn), fv]
  mi : MapT w Mi esI
  mn : MapK w Mn ks
  val : ∀ nm, (getT esI nm).getD (.string (bs [])) = .string (bs (ids nm))
  len : ∀ nm, (ids nm).length ≤ 1000000
theorem FilC.kept {F Mi Mn : Nat} {fv : Value} {esI : List (Bs × Value)} {ks : List Bs} {ids : Bs → Bs} {w w' : World} (h : FilC F Mi Mn fv esI ks ids w) (k : Kept w w') : FilC F Mi Mn fv esI ks ids w' :=
  ⟨h.blk.kept k, h.mi.kept k, MapK_kept h.mn k, h.val, h.len⟩
theorem zero_str (w : World) : (zeroValue 9).run Try.prog w = .ok (.string (bs [])) w := by kernel_rfl
/-- What the walk asks of inlines: the texts of uses are short. -/
def okV (xs : List Inl) : Prop := ∀ x ∈ deepL xs, okU x
def FlP (m : Nat) (zs : List Inl) (w : World) (e : Ending) (w' : World) : Prop := ∃ v, e = .returned v ∧ Lns (fun g => w.heap.size ≤ g) m w' v zs ∧ Kept w w'
set_option maxRecDepth 100000 in
set_option maxHeartbeats 12800000 in
theorem fline_any (S : Nat → Prop) (F Mi Mn : Nat) (fv : Value) (esI : List (Bs × Value)) (ks : List Bs) (ids : Bs → Bs) : ∀ (n : Nat) (xs : List Inl) (v : Value) (cov : Bool) (w : World), Lns S n w v xs → xs.length ≤ 1000000 → okIL xs → okV xs → FilC F Mi Mn fv esI ks ids w →
    Calls Try.prog 65 #[.pointer (some ⟨F, 0, none⟩), v, .bool cov] w (FlP (3 * n + 1) (lineL ids cov xs) w) := by
  intro n
  induction n with
  | zero =>
    intro xs v cov w hv hl hok hov hfc
    obtain rfl := hv.no
    obtain ⟨a, c, rfl, hc⟩ := hv.form
    have HFIN : FlP (3 * 0 + 1) (lineL ids cov []) w (.returned (.slice none 0 0)) w := ⟨_, rfl, Lns.none_ _ _ _, Kept.refl w⟩
    generalize hP : FlP (3 * 0 + 1) (lineL ids cov []) w = P at *
    clear hv hok hov hfc hP
    go_enter Try.func65, Try.ntmps65
    go_wp2_with fail
    go_loopw [7, 15] (fun o i wr => o = .slice none 0 0 ∧ i = .int .i64 0 ∧ w = wr) (fun _ i _ => 1)
    case atStart => exact ⟨rfl, rfl, rfl⟩
    case round =>
      obtain ⟨rfl, rfl, rfl⟩ := hrel
      go_wp2_with fail
      (try go_ret)
      exact HFIN
  | succ n ih =>
    intro xs v cov w hv hl hok hov hfc
    have HV := Lib.hid hv
    have HOK := Lib.hid hok
    have HOV : Hid (∀ x ∈ xs, okU x ∧ okV x.kids) := fun x hx => ⟨hov x (deepL_mem hx).1, fun y hy => hov y ((deepL_mem hx).2 y hy)⟩
    have HFC := Lib.hid hfc
    have HTK := Lib.hid (fun (k : Nat) (x : Inl) h => lineL_take (ids := ids) (cov := cov) (xs := xs) (k := k) (x := x) h)
    have HTL := Lib.hid (fun k => lineL_len ids cov (xs.take k))
    have HFIN : Hid (∀ v w', OutG (InlK (3 * n + 3)) 10 (fun g => w.heap.size ≤ g) w.heap.size 41 w' v (lineL ids cov (xs.take xs.length)) → Kept w w' → FlP (3 * (n + 1) + 1) (lineL ids cov xs) w (.returned v) w') := fun v w' h1 h2 => ⟨v, rfl, by
      rw [List.take_length] at h1
      exact OutG.row (S := fun g => w.heap.size ≤ g) (inlK (3 * n + 3)) h1 (fun g _ h => h) (fun g h => h), h2⟩
    have HIH := Lib.hid ih
    unfold FlP at HIH
    obtain ⟨i0, hi, hz0, hz1, hz2⟩ := info_parts Try.infoIn
    obtain ⟨a, c, rfl, hc⟩ := hv.form
    generalize hP : FlP (3 * (n + 1) + 1) (lineL ids cov xs) w = P at *
    clear hP hv hok ih hov hfc
    go_enter Try.func65, Try.ntmps65
    go_wp2_with fail
    go_loopw [7, 15] (fun o i wr => ∃ (k : Nat), k ≤ xs.length ∧ i = .int .i64 k ∧ Hid (OutG (InlK (3 * n + 3)) 10 (fun g => w.heap.size ≤ g) w.heap.size 41 wr o (lineL ids cov (xs.take k))) ∧ Hid (Kept w wr)) (fun _ i _ => xs.length - (intOf i).toNat)
    case atStart => exact ⟨0, Nat.zero_le _, rfl, OutG.nil _ _ _ _ _ _, Kept.refl w⟩
    case round =>
      obtain ⟨k, hk, rfl, HGR, HKR⟩ := hrel
      have hbr : w.heap.size ≤ wr.heap.size := HKR.out.size
      by_cases hlt : k < xs.length
      · obtain ⟨x, hx⟩ : ∃ x, xs[k]? = some x := ⟨_, List.getElem?_eq_getElem hlt⟩
        have HVR := Lib.hid (HV.out.kept HKR.out)
        have hfit := (okIL_at HOK.out x (List.mem_of_getElem? hx)).fit
        obtain ⟨⟨hou1, hou2⟩, hov2⟩ := HOV.out x (List.mem_of_getElem? hx)
        have HOV2 := Lib.hid hov2
        have HT := Lib.hid (HTK.out k x hx)
        have hzl := HTL.out k
        rw [List.length_take] at hzl
        have HZL := Lib.hid hzl
        clear hzl
        obtain ⟨g, o, vC, vP, vA, vT, vK, rfl, hgg, hgS, -, -, ⟨d0, d1, d2, d3, d4, d5, d6, d7, d8, d9⟩, -, ⟨hC, iC⟩, ⟨hPP, iP⟩, ⟨hA, iA⟩, hTT, hK⟩ := Lns.at_ HVR.out k x hx
        obtain ⟨kind, text, dest, title, id, cls, prs, args, cits, kids⟩ := x
        simp only [Inl.kind, Inl.text, Inl.dest, Inl.title, Inl.id, Inl.cls, Inl.prs, Inl.args, Inl.cits, Inl.kids] at d0 d1 d2 d3 d4 hC hPP hA hTT hK hfit hou2 HOV2
        obtain ⟨⟨f1, f2, f3, f4, f5, f6, f7, f8, f9⟩, f10⟩ := hfit
        have HC := Lib.hid hC
        have HPP := Lib.hid hPP
        have HA := Lib.hid hA
        have HTT := Lib.hid hTT
        have HKK := Lib.hid hK
        have HKO := Lib.hid f10
        obtain ⟨aC, cC, rfl, lC⟩ := hC.shape
        obtain ⟨aP, cP, rfl, lP⟩ := hPP.shape
        obtain ⟨aA, cA, rfl, lA⟩ := hA.shape
        obtain ⟨aT, cT, rfl, lT⟩ := hTT.form
        obtain ⟨aK, cK, rfl, lK⟩ := hK.form
        have HB0 := Lib.hid (Blk.new wr 41 #[.int .i64 kind, .string (bs text), .string (bs dest), .string (bs title), .string (bs id), .slice aC cls.length cC, .slice aP prs.length cP, .slice aA args.length cA, .slice aT cits.length cT, .slice aK kids.length cK])
        have HKI := Lib.hid (kept_alloc wr (.cells #[.int .i64 kind, .string (bs text), .string (bs dest), .string (bs title), .string (bs id), .slice aC cls.length cC, .slice aP prs.length cP, .slice aA args.length cA, .slice aT cits.length cT, .slice aK kids.length cK] 41))
        have HISU := Lib.hid (isuse_any kind text dest title id (.slice aC cls.length cC) (.slice aP prs.length cP) (.slice aA args.length cA) (.slice aT cits.length cT) (.slice aK kids.length cK) cls (wr.alloc (.cells #[.int .i64 kind, .string (bs text), .string (bs dest), .string (bs title), .string (bs id), .slice aC cls.length cC, .slice aP prs.length cP, .slice aA args.length cA, .slice aT cits.length cT, .slice aK kids.length cK] 41)) (hC.kept HKI.out) (by omega) rfl rfl rfl rfl)
        rw [← isUse_mk kind text dest title id cls prs args cits kids] at HISU
        have HUSE := Lib.hid (fun w h1 h2 => usename_any (S := S) n kind text dest title id (.slice aC cls.length cC) (.slice aP prs.length cP) (.slice aA args.length cA) (.slice aT cits.length cT) (.slice aK kids.length cK) prs kids w rfl h1 rfl rfl h2 (by omega) (by omega) HKO.out (by omega))
        have HREF := Lib.hid (fun w h => hasref_any S n kids (.slice aK kids.length cK) w h f9 HKO.out)
        unfold RefP at HREF
        have HL1 : Hid (line1 ids cov (Inl.mk kind text dest title id cls prs args cits kids) = .mk kind text dest title id cls prs args cits (linkSel (isUse (Inl.mk kind text dest title id cls prs args cits kids) && (!cov && !hasRefL kids)) (ids (useName (Inl.mk kind text dest title id cls prs args cits kids))) (useName (Inl.mk kind text dest title id cls prs args cits kids)) (lineL ids (cov || (isUse (Inl.mk kind text dest title id cls prs args cits kids) || kind == 9)) kids))) := rfl
        have hUN : useName (Inl.mk kind text dest title id cls prs args cits kids) = (getP prs kName).getD (plainL kids) := rfl
        rw [hUN] at HL1
        obtain ⟨nm, HNM⟩ : ∃ nm, Hid ((getP prs kName).getD (plainL kids) = nm) := ⟨_, rfl⟩
        rw [HNM.out] at HUSE HL1
        rw [HL1.out] at HT
        obtain ⟨U, HU⟩ : ∃ U, Hid (isUse (Inl.mk kind text dest title id cls prs args cits kids) = U) := ⟨_, rfl⟩
        rw [HU.out] at HISU HT
        have HUK : Hid (U = true → (kind == 9) = false) := fun h => by
          have h1 := HU.out
          rw [h, isUse_mk] at h1
          simp at h1
          simp [h1.1]
        clear hC iC hPP iP hA iA hTT hK f10 hx HTK HTL HVR HL1 hUN HNM hov2 hou1
        obtain ⟨I, HI⟩ : ∃ I, Hid (wr.heap.size = I) := ⟨_, rfl⟩
        go_wp2_with fail
        generalize wr.alloc _ = w1 at *
        refine HISU.out.mono ?_
        rintro e w2 ⟨rfl, hk2⟩
        rw [HI.out] at HB0 ⊢
        have HK2 := Lib.hid (HKI.out.trans hk2)
        have HB2 := Lib.hid (HB0.out.kept hk2)
        clear hk2 HISU HB0 HKI d0 d1 d2 d3 d4 d5 d6 d7 d8 d9
        have HJ0 := Lib.hid (Blk.new w2 41 #[.int .i64 kind, .string (bs text), .string (bs dest), .string (bs title), .string (bs id), .slice aC cls.length cC, .slice aP prs.length cP, .slice aA args.length cA, .slice aT cits.length cT, .slice aK kids.length cK])
        have HKJ := Lib.hid (kept_alloc w2 (.cells #[.int .i64 kind, .string (bs text), .string (bs dest), .string (bs title), .string (bs id), .slice aC cls.length cC, .slice aP prs.length cP, .slice aA args.length cA, .slice aT cits.length cT, .slice aK kids.length cK] 41))
        obtain ⟨J, HJJ⟩ : ∃ J, Hid (w2.heap.size = J) := ⟨_, rfl⟩
        have hIJ : I < J := by rw [← HJJ.out]; exact HB2.out.lt
        have zI : I < w2.heap.size := HB2.out.lt
        have hJz : wr.heap.size ≤ J := by have := HI.out; omega
        have c0 : w2.cell? ⟨I, 0, none⟩ = some (.int .i64 kind) := (HB2.out).cell 0 _ rfl
        have c1 : w2.cell? ⟨I, 1, none⟩ = some (.string (bs text)) := (HB2.out).cell 1 _ rfl
        have c2 : w2.cell? ⟨I, 2, none⟩ = some (.string (bs dest)) := (HB2.out).cell 2 _ rfl
        have c3 : w2.cell? ⟨I, 3, none⟩ = some (.string (bs title)) := (HB2.out).cell 3 _ rfl
        have c4 : w2.cell? ⟨I, 4, none⟩ = some (.string (bs id)) := (HB2.out).cell 4 _ rfl
        have c5 : w2.cell? ⟨I, 5, none⟩ = some (.slice aC cls.length cC) := (HB2.out).cell 5 _ rfl
        have c6 : w2.cell? ⟨I, 6, none⟩ = some (.slice aP prs.length cP) := (HB2.out).cell 6 _ rfl
        have c7 : w2.cell? ⟨I, 7, none⟩ = some (.slice aA args.length cA) := (HB2.out).cell 7 _ rfl
        have c8 : w2.cell? ⟨I, 8, none⟩ = some (.slice aT cits.length cT) := (HB2.out).cell 8 _ rfl
        have c9 : w2.cell? ⟨I, 9, none⟩ = some (.slice aK kids.length cK) := (HB2.out).cell 9 _ rfl
        go_wp2_with fail
        generalize w2.alloc _ = w3 at *
        rw [HJJ.out] at HJ0 ⊢
        have HK3 := Lib.hid (HK2.out.trans HKJ.out)
        have HB3 := Lib.hid (HB2.out.kept HKJ.out)
        clear HKJ HB2 HK2 c0 c1 c2 c3 c4 c5 c6 c7 c8 c9
        refine ((gcat_any id _ _ cls prs w3 (HC.out.kept HK3.out) (HPP.out.kept HK3.out) (by omega) (by omega))).mono ?_
        rintro e w4 ⟨vC1, vP1, rfl, ⟨hc1, ic1⟩, ⟨hp1, ip1⟩, hk4⟩
        obtain ⟨aC1, cC1, rfl, lC1⟩ := hc1.shape
        obtain ⟨aP1, cP1, rfl, lP1⟩ := hp1.shape
        have HC4 := Lib.hid hc1
        have HP4 := Lib.hid hp1
        have hz3 : J < w3.heap.size := HJ0.out.lt
        have HIC : Hid (InB (fun g => J < g) (.slice aC1 cls.length cC1) cls.length) := ic1.mono (fun g _ _ q => Nat.lt_of_lt_of_le hz3 q)
        have HIP : Hid (InB (fun g => J < g) (.slice aP1 prs.length cP1) prs.length) := ip1.mono (fun g _ _ q => Nat.lt_of_lt_of_le hz3 q)
        have HJ4 := Lib.hid (HJ0.out.kept hk4)
        have HB4 := Lib.hid (HB3.out.kept hk4)
        have HK4 := Lib.hid (HK3.out.trans hk4)
        clear hc1 hp1 ic1 ip1 hk4 HJ0 HB3 HK3 hz3
        go_wp2_with (refine wpList_store_part rfl 35 (.tmp 25) (.tmp 24) (by rfl) J 4 41 _ #[.string (bs id), .slice aC1 cls.length cC1, .slice aP1 prs.length cP1] (by rfl) (by rfl) HJ4.out (by show 4 + 3 ≤ 10; omega) Try.sizeAt (by simp only [List.all_toArray, List.all_cons, List.all_nil]; rfl) ?_; intro w5 hb5 ho5; have HJ5 : Hid (Blk w5 J 41 #[.int .i64 kind, .string (bs text), .string (bs dest), .string (bs title), .string (bs id), .slice aC1 cls.length cC1, .slice aP1 prs.length cP1, .slice aA args.length cA, .slice aT cits.length cT, .slice aK kids.length cK]) := hb5; have HO5 := Lib.hid ho5; have b7 : w5.cell? ⟨I, 5 + 2, none⟩ = some (.slice aA args.length cA) := (HB4.out.onl ho5 (by omega)).cell 7 _ rfl; clear hb5 ho5)
        have HK5 := Lib.hid (HK4.out.trans' (HO5.out.below HK4.out.size (fun i e => by rw [e]; exact hJz)))
        have HB5 := Lib.hid (HB4.out.onl HO5.out (by omega))
        have HC5 := Lib.hid (HC4.out.onlS HIC.out HO5.out (fun g _ hs q => by omega))
        have HP5 := Lib.hid (HP4.out.onlS HIP.out HO5.out (fun g _ hs q => by omega))
        clear HJ4 HB4 HK4 HC4 HP4 HO5 b7
        refine (clnS _ args w5 (HA.out.kept HK5.out) (by omega)).mono ?_
        rintro e w6 ⟨vA1, rfl, ha1, ia1, hk6⟩
        obtain ⟨aA1, cA1, rfl, lA1⟩ := ha1.shape
        have hz5 : J < w5.heap.size := HJ5.out.lt
        have HA6 := Lib.hid ha1
        have HIA : Hid (InB (fun g => J < g) (.slice aA1 args.length cA1) args.length) := ia1.mono (fun g _ _ q => Nat.lt_of_lt_of_le hz5 q)
        have hb6 := HJ5.out.kept hk6
        have k6 := HK5.out.trans hk6
        have ho7 := Only.setCell (w := w6) J 7 (.slice aA1 args.length cA1)
        have x7 : w6.cell? ⟨J, 7, none⟩ = some (.slice aA args.length cA) := hb6.cell 7 _ rfl
        have f7 := hb6.free 7
        have zJ := hb6.lt
        have HJ7 : Hid (Blk (w6.setCell ⟨J, 7, none⟩ (.slice aA1 args.length cA1)) J 41 #[.int .i64 kind, .string (bs text), .string (bs dest), .string (bs title), .string (bs id), .slice aC1 cls.length cC1, .slice aP1 prs.length cP1, .slice aA1 args.length cA1, .slice aT cits.length cT, .slice aK kids.length cK]) := hb6.set 7 _
        have HB7 := Lib.hid ((HB5.out.kept hk6).onl ho7 (by omega))
        have HK7 := Lib.hid (kept_set k6 J 7 (.slice aA1 args.length cA1) hJz)
        have HC7 := Lib.hid ((HC5.out.kept hk6).onlS HIC.out ho7 (fun g _ hs q => by omega))
        have HP7 := Lib.hid ((HP5.out.kept hk6).onlS HIP.out ho7 (fun g _ hs q => by omega))
        have HA7 := Lib.hid (HA6.out.onlS HIA.out ho7 (fun g _ hs q => by omega))
        have x8 : (w6.setCell ⟨J, 7, none⟩ (.slice aA1 args.length cA1)).cell? ⟨I, 8, none⟩ = some (.slice aT cits.length cT) := HB7.out.cell 8 _ rfl
        clear ha1 ia1 hk6 hb6 k6 ho7 HJ5 HB5 HK5 HC5 HP5 HA6 hz5
        go_wp2_with fail
        generalize World.setCell _ _ _ = w7 at *
        clear x7 f7 zJ x8
        refine (clnT _ cits w7 (HTT.out.sam (S' := S) (Sam.kept HK7.out) (fun _ _ q => q)) (by omega)).mono ?_
        rintro e w8 ⟨vT1, rfl, ht1, hk8⟩
        obtain ⟨aT1, cT1, rfl, lT1⟩ := ht1.form
        have hz7 : J < w7.heap.size := HJ7.out.lt
        have ht8 : Cits (fun g => J < g) w8 (.slice aT1 cits.length cT1) cits := ht1.sam (fun _ _ _ => rfl) (fun g _ q => Nat.lt_of_lt_of_le hz7 q)
        have hb8 := HJ7.out.kept hk8
        have k8 := HK7.out.trans hk8
        have ho9 := Only.setCell (w := w8) J 8 (.slice aT1 cits.length cT1)
        have x8 : w8.cell? ⟨J, 8, none⟩ = some (.slice aT cits.length cT) := hb8.cell 8 _ rfl
        have f8' := hb8.free 8
        have zJ := hb8.lt
        have HJ9 : Hid (Blk (w8.setCell ⟨J, 8, none⟩ (.slice aT1 cits.length cT1)) J 41 #[.int .i64 kind, .string (bs text), .string (bs dest), .string (bs title), .string (bs id), .slice aC1 cls.length cC1, .slice aP1 prs.length cP1, .slice aA1 args.length cA1, .slice aT1 cits.length cT1, .slice aK kids.length cK]) := hb8.set 8 _
        have HB9 := Lib.hid ((HB7.out.kept hk8).onl ho9 (by omega))
        have HK9 := Lib.hid (kept_set k8 J 8 (.slice aT1 cits.length cT1) hJz)
        have HC9 := Lib.hid ((HC7.out.kept hk8).onlS HIC.out ho9 (fun g _ hs q => by omega))
        have HP9 := Lib.hid ((HP7.out.kept hk8).onlS HIP.out ho9 (fun g _ hs q => by omega))
        have HA9 := Lib.hid ((HA7.out.kept hk8).onlS HIA.out ho9 (fun g _ hs q => by omega))
        have HT9 := Lib.hid (ht8.sam (S' := fun g => J < g) (Sam.only ho9 (fun g _ hs q => by omega)) (fun _ _ q => q))
        have x9 : (w8.setCell ⟨J, 8, none⟩ (.slice aT1 cits.length cT1)).cell? ⟨I, 9, none⟩ = some (.slice aK kids.length cK) := HB9.out.cell 9 _ rfl
        have x0 : (w8.setCell ⟨J, 8, none⟩ (.slice aT1 cits.length cT1)).cell? ⟨I, 0, none⟩ = some (.int .i64 kind) := HB9.out.cell 0 _ rfl
        clear ht1 hk8 hb8 k8 ho9 HJ7 HB7 HK7 HC7 HP7 HA7 ht8 hz7
        have HOVC := Lib.hid HOV2.out
        cases cov with
        | true =>
          cases U with
          | true =>
            go_wp2_with fail
            generalize World.setCell _ _ _ = w9 at *
            clear x0 x8 x9 f8' zJ
            refine (HIH.out kids (.slice aK kids.length cK) true w9 (HKK.out.kept HK9.out) f9 HKO.out HOVC.out (HFC.out.kept (HKR.out.trans HK9.out))).mono ?_
            rintro e w10 ⟨vK1, rfl, hk1, hk10⟩
            obtain ⟨aK1, cK1, rfl, lK1⟩ := hk1.form
            have hz9 : J < w9.heap.size := HJ9.out.lt
            have hb10 := HJ9.out.kept hk10
            have ho11 := Only.setCell (w := w10) J 9 (.slice aK1 (lineL ids true kids).length cK1)
            have x9 : w10.cell? ⟨J, 9, none⟩ = some (.slice aK kids.length cK) := hb10.cell 9 _ rfl
            have f9' := hb10.free 9
            have zJ := hb10.lt
            have HJ11 : Hid (Blk (w10.setCell ⟨J, 9, none⟩ (.slice aK1 (lineL ids true kids).length cK1)) J 41 #[.int .i64 kind, .string (bs text), .string (bs dest), .string (bs title), .string (bs id), .slice aC1 cls.length cC1, .slice aP1 prs.length cP1, .slice aA1 args.length cA1, .slice aT1 cits.length cT1, .slice aK1 (lineL ids true kids).length cK1]) := hb10.set 9 _
            have HB11 := Lib.hid ((HB9.out.kept hk10).onl ho11 (by omega))
            have HK11 := Lib.hid (kept_set (HK9.out.trans hk10) J 9 (.slice aK1 (lineL ids true kids).length cK1) hJz)
            have HC11 := Lib.hid ((HC9.out.kept hk10).onlS HIC.out ho11 (fun g _ hs q => by omega))
            have HP11 := Lib.hid ((HP9.out.kept hk10).onlS HIP.out ho11 (fun g _ hs q => by omega))
            have HA11 := Lib.hid ((HA9.out.kept hk10).onlS HIA.out ho11 (fun g _ hs q => by omega))
            have HT11 := Lib.hid ((HT9.out.sam (S' := fun g => J < g) (Sam.kept hk10) (fun _ _ q => q)).sam (S' := fun g => J < g) (Sam.only ho11 (fun g _ hs q => by omega)) (fun _ _ q => q))
            have HKK11 := Lib.hid (hk1.sam (S' := fun g => J < g) (Sam.only ho11 (fun g _ hs q => by omega)) (fun g _ q => by omega))
            clear hk1 hk10 hb10 ho11 HJ9 HB9 HK9 HC9 HP9 HA9 HT9 hz9
            obtain ⟨ar, cr, rfl, hcr, hmr⟩ := HGR.out.form
            have hin : ∀ g, J < g → w.heap.size ≤ g ∧ (Value.slice ar (lineL ids true (xs.take k)).length cr).ownBlock ≠ some g := fun g hg => ⟨by omega, fun q => by have := HGR.out.blk g q; omega⟩
            have HYY : Hid (InlK (3 * n + 3) (fun g => w.heap.size ≤ g ∧ (Value.slice ar (lineL ids true (xs.take k)).length cr).ownBlock ≠ some g) (w10.setCell ⟨J, 9, none⟩ (.slice aK1 (lineL ids true kids).length cK1)) [.int .i64 kind, .string (bs text), .string (bs dest), .string (bs title), .string (bs id), .slice aC1 cls.length cC1, .slice aP1 prs.length cP1, .slice aA1 args.length cA1, .slice aT1 cits.length cT1, .slice aK1 (lineL ids true kids).length cK1] (.mk kind text dest title id cls prs args cits (lineL ids true kids))) :=
              ⟨_, _, _, _, _, rfl, ⟨HC11.out, HIC.out.mono (fun g _ _ q => hin g q)⟩, ⟨HP11.out, HIP.out.mono (fun g _ _ q => hin g q)⟩, ⟨HA11.out, HIA.out.mono (fun g _ _ q => hin g q)⟩, HT11.out.sam (fun _ _ _ => rfl) (fun g _ q => hin g q), (HKK11.out.sam (fun _ _ _ => rfl) (fun g _ q => hin g q)).ups (by omega)⟩
            have HG2 := Lib.hid (HGR.out.kept (inlK (3 * n + 3)) (HK11.out.trans (kept_alloc (w10.setCell ⟨J, 9, none⟩ (.slice aK1 (lineL ids true kids).length cK1)) (.cells #[.int .i64 kind, .string (bs text), .string (bs dest), .string (bs title), .string (bs id), .slice aC1 cls.length cC1, .slice aP1 prs.length cP1, .slice aA1 args.length cA1, .slice aT1 cits.length cT1, .slice aK1 (lineL ids true kids).length cK1] 41))))
            have HROW := Lib.hid (Blk.new (w10.setCell ⟨J, 9, none⟩ (.slice aK1 (lineL ids true kids).length cK1)) 41 #[.int .i64 kind, .string (bs text), .string (bs dest), .string (bs title), .string (bs id), .slice aC1 cls.length cC1, .slice aP1 prs.length cP1, .slice aA1 args.length cA1, .slice aT1 cits.length cT1, .slice aK1 (lineL ids true kids).length cK1])
            (try rw [size_setCell] at HROW)
            have HYZ := Lib.hid ((inlK (3 * n + 3)).sam HYY.out (Sam.kept (kept_alloc (w10.setCell ⟨J, 9, none⟩ (.slice aK1 (lineL ids true kids).length cK1)) (.cells #[.int .i64 kind, .string (bs text), .string (bs dest), .string (bs title), .string (bs id), .slice aC1 cls.length cC1, .slice aP1 prs.length cP1, .slice aA1 args.length cA1, .slice aT1 cits.length cT1, .slice aK1 (lineL ids true kids).length cK1] 41))) (fun _ _ q => q))
            have hbz : w.heap.size ≤ ((w10.setCell ⟨J, 9, none⟩ (.slice aK1 (lineL ids true kids).length cK1)).alloc (.cells #[.int .i64 kind, .string (bs text), .string (bs dest), .string (bs title), .string (bs id), .slice aC1 cls.length cC1, .slice aP1 prs.length cP1, .slice aA1 args.length cA1, .slice aT1 cits.length cT1, .slice aK1 (lineL ids true kids).length cK1] 41)).heap.size := Nat.le_trans hbr (Nat.le_trans HK11.out.size (kept_alloc (w10.setCell ⟨J, 9, none⟩ (.slice aK1 (lineL ids true kids).length cK1)) _).size)
            have jc0 : (w10.setCell ⟨J, 9, none⟩ (.slice aK1 (lineL ids true kids).length cK1)).cell? ⟨J, 0, none⟩ = some (.int .i64 kind) := (HJ11.out).cell 0 _ rfl
            have jc1 : (w10.setCell ⟨J, 9, none⟩ (.slice aK1 (lineL ids true kids).length cK1)).cell? ⟨J, 1, none⟩ = some (.string (bs text)) := (HJ11.out).cell 1 _ rfl
            have jc2 : (w10.setCell ⟨J, 9, none⟩ (.slice aK1 (lineL ids true kids).length cK1)).cell? ⟨J, 2, none⟩ = some (.string (bs dest)) := (HJ11.out).cell 2 _ rfl
            have jc3 : (w10.setCell ⟨J, 9, none⟩ (.slice aK1 (lineL ids true kids).length cK1)).cell? ⟨J, 3, none⟩ = some (.string (bs title)) := (HJ11.out).cell 3 _ rfl
            have jc4 : (w10.setCell ⟨J, 9, none⟩ (.slice aK1 (lineL ids true kids).length cK1)).cell? ⟨J, 4, none⟩ = some (.string (bs id)) := (HJ11.out).cell 4 _ rfl
            have jc5 : (w10.setCell ⟨J, 9, none⟩ (.slice aK1 (lineL ids true kids).length cK1)).cell? ⟨J, 5, none⟩ = some (.slice aC1 cls.length cC1) := (HJ11.out).cell 5 _ rfl
            have jc6 : (w10.setCell ⟨J, 9, none⟩ (.slice aK1 (lineL ids true kids).length cK1)).cell? ⟨J, 6, none⟩ = some (.slice aP1 prs.length cP1) := (HJ11.out).cell 6 _ rfl
            have jc7 : (w10.setCell ⟨J, 9, none⟩ (.slice aK1 (lineL ids true kids).length cK1)).cell? ⟨J, 7, none⟩ = some (.slice aA1 args.length cA1) := (HJ11.out).cell 7 _ rfl
            have jc8 : (w10.setCell ⟨J, 9, none⟩ (.slice aK1 (lineL ids true kids).length cK1)).cell? ⟨J, 8, none⟩ = some (.slice aT1 cits.length cT1) := (HJ11.out).cell 8 _ rfl
            have jc9 : (w10.setCell ⟨J, 9, none⟩ (.slice aK1 (lineL ids true kids).length cK1)).cell? ⟨J, 9, none⟩ = some (.slice aK1 (lineL ids true kids).length cK1) := (HJ11.out).cell 9 _ rfl
            go_wp2_with (refine wpList_append_out (inlK (3 * n + 3)) rfl (.tmp 72) (.tmp 74) 30 rfl i0 _ 192 Try.underlying30 hi hz0 hz1 hz2 rfl (by omega) (by rfl) HG2.out _ _ (.mk kind text dest title id cls prs args cits (lineL ids true kids)) (by rfl) (fun j u hu => HROW.out.cell j u (by rw [← Array.getElem?_toList]; exact hu)) rfl HYZ.out (by have := HZL.out; unfold maxLen; omega) (by have := HZL.out; omega) hbz _ rfl ?_; intro g7 c7' w17 hout7 hgrow7 hat7 hlt7; have HG7 := Lib.hid hgrow7; have HO7 := Lib.hid hout7; clear hgrow7 hat7 hout7)
            have hsel : Inl.mk kind text dest title id cls prs args cits (lineL ids true kids) = Inl.mk kind text dest title id cls prs args cits (linkSel (true && (!true && !hasRefL kids)) (ids nm) nm (lineL ids (true || (true || kind == 9)) kids)) := rfl
            have HOUT : Hid (OutG (InlK (3 * n + 3)) 10 (fun g => w.heap.size ≤ g) w.heap.size 41 w17 (.slice (some ⟨g7, 0, none⟩) ((lineL ids true (xs.take k)).length + 1) c7') (lineL ids true (xs.take (k + 1)))) := by rw [HT.out, ← hsel]; exact HO7.out
            have HKZ : Hid (Kept w w17) := (HKR.out.trans (HK11.out.trans (kept_alloc (w10.setCell ⟨J, 9, none⟩ (.slice aK1 (lineL ids true kids).length cK1)) (.cells #[.int .i64 kind, .string (bs text), .string (bs dest), .string (bs title), .string (bs id), .slice aC1 cls.length cC1, .slice aP1 prs.length cP1, .slice aA1 args.length cA1, .slice aT1 cits.length cT1, .slice aK1 (lineL ids true kids).length cK1] 41)))).trans' ((Only.grown HG7.out).below (Nat.le_trans hbr (Nat.le_trans HK11.out.size (kept_alloc (w10.setCell ⟨J, 9, none⟩ (.slice aK1 (lineL ids true kids).length cK1)) _).size)) (fun i h => (HGR.out.blk i h.symm).1))
            clear hsel hin HYY HG2 HROW HYZ hbz HG7 HO7 HT HGR HKR x9 f9' zJ HB11 HJ11 HC11 HP11 HA11 HT11 HKK11 HK11 HIC HIP HIA HIH HREF HUSE HPP HC HA HTT HKK jc0 jc1 jc2 jc3 jc4 jc5 jc6 jc7 jc8 jc9
            go_wp2_with fail
            go_roundw
            case rel => exact ⟨k + 1, by omega, by go_num, HOUT.out, HKZ.out⟩
            case measure => simp [intOf]; omega
          | false =>
            go_wp2_with fail
            generalize World.setCell _ _ _ = w9 at *
            clear x0 x8 x9 f8' zJ
            refine (HIH.out kids (.slice aK kids.length cK) true w9 (HKK.out.kept HK9.out) f9 HKO.out HOVC.out (HFC.out.kept (HKR.out.trans HK9.out))).mono ?_
            rintro e w10 ⟨vK1, rfl, hk1, hk10⟩
            obtain ⟨aK1, cK1, rfl, lK1⟩ := hk1.form
            have hz9 : J < w9.heap.size := HJ9.out.lt
            have hb10 := HJ9.out.kept hk10
            have ho11 := Only.setCell (w := w10) J 9 (.slice aK1 (lineL ids true kids).length cK1)
            have x9 : w10.cell? ⟨J, 9, none⟩ = some (.slice aK kids.length cK) := hb10.cell 9 _ rfl
            have f9' := hb10.free 9
            have zJ := hb10.lt
            have HJ11 : Hid (Blk (w10.setCell ⟨J, 9, none⟩ (.slice aK1 (lineL ids true kids).length cK1)) J 41 #[.int .i64 kind, .string (bs text), .string (bs dest), .string (bs title), .string (bs id), .slice aC1 cls.length cC1, .slice aP1 prs.length cP1, .slice aA1 args.length cA1, .slice aT1 cits.length cT1, .slice aK1 (lineL ids true kids).length cK1]) := hb10.set 9 _
            have HB11 := Lib.hid ((HB9.out.kept hk10).onl ho11 (by omega))
            have HK11 := Lib.hid (kept_set (HK9.out.trans hk10) J 9 (.slice aK1 (lineL ids true kids).length cK1) hJz)
            have HC11 := Lib.hid ((HC9.out.kept hk10).onlS HIC.out ho11 (fun g _ hs q => by omega))
            have HP11 := Lib.hid ((HP9.out.kept hk10).onlS HIP.out ho11 (fun g _ hs q => by omega))
            have HA11 := Lib.hid ((HA9.out.kept hk10).onlS HIA.out ho11 (fun g _ hs q => by omega))
            have HT11 := Lib.hid ((HT9.out.sam (S' := fun g => J < g) (Sam.kept hk10) (fun _ _ q => q)).sam (S' := fun g => J < g) (Sam.only ho11 (fun g _ hs q => by omega)) (fun _ _ q => q))
            have HKK11 := Lib.hid (hk1.sam (S' := fun g => J < g) (Sam.only ho11 (fun g _ hs q => by omega)) (fun g _ q => by omega))
            clear hk1 hk10 hb10 ho11 HJ9 HB9 HK9 HC9 HP9 HA9 HT9 hz9
            obtain ⟨ar, cr, rfl, hcr, hmr⟩ := HGR.out.form
            have hin : ∀ g, J < g → w.heap.size ≤ g ∧ (Value.slice ar (lineL ids true (xs.take k)).length cr).ownBlock ≠ some g := fun g hg => ⟨by omega, fun q => by have := HGR.out.blk g q; omega⟩
            have HYY : Hid (InlK (3 * n + 3) (fun g => w.heap.size ≤ g ∧ (Value.slice ar (lineL ids true (xs.take k)).length cr).ownBlock ≠ some g) (w10.setCell ⟨J, 9, none⟩ (.slice aK1 (lineL ids true kids).length cK1)) [.int .i64 kind, .string (bs text), .string (bs dest), .string (bs title), .string (bs id), .slice aC1 cls.length cC1, .slice aP1 prs.length cP1, .slice aA1 args.length cA1, .slice aT1 cits.length cT1, .slice aK1 (lineL ids true kids).length cK1] (.mk kind text dest title id cls prs args cits (lineL ids true kids))) :=
              ⟨_, _, _, _, _, rfl, ⟨HC11.out, HIC.out.mono (fun g _ _ q => hin g q)⟩, ⟨HP11.out, HIP.out.mono (fun g _ _ q => hin g q)⟩, ⟨HA11.out, HIA.out.mono (fun g _ _ q => hin g q)⟩, HT11.out.sam (fun _ _ _ => rfl) (fun g _ q => hin g q), (HKK11.out.sam (fun _ _ _ => rfl) (fun g _ q => hin g q)).ups (by omega)⟩
            have HG2 := Lib.hid (HGR.out.kept (inlK (3 * n + 3)) (HK11.out.trans (kept_alloc (w10.setCell ⟨J, 9, none⟩ (.slice aK1 (lineL ids true kids).length cK1)) (.cells #[.int .i64 kind, .string (bs text), .string (bs dest), .string (bs title), .string (bs id), .slice aC1 cls.length cC1, .slice aP1 prs.length cP1, .slice aA1 args.length cA1, .slice aT1 cits.length cT1, .slice aK1 (lineL ids true kids).length cK1] 41))))
            have HROW := Lib.hid (Blk.new (w10.setCell ⟨J, 9, none⟩ (.slice aK1 (lineL ids true kids).length cK1)) 41 #[.int .i64 kind, .string (bs text), .string (bs dest), .string (bs title), .string (bs id), .slice aC1 cls.length cC1, .slice aP1 prs.length cP1, .slice aA1 args.length cA1, .slice aT1 cits.length cT1, .slice aK1 (lineL ids true kids).length cK1])
            (try rw [size_setCell] at HROW)
            have HYZ := Lib.hid ((inlK (3 * n + 3)).sam HYY.out (Sam.kept (kept_alloc (w10.setCell ⟨J, 9, none⟩ (.slice aK1 (lineL ids true kids).length cK1)) (.cells #[.int .i64 kind, .string (bs text), .string (bs dest), .string (bs title), .string (bs id), .slice aC1 cls.length cC1, .slice aP1 prs.length cP1, .slice aA1 args.length cA1, .slice aT1 cits.length cT1, .slice aK1 (lineL ids true kids).length cK1] 41))) (fun _ _ q => q))
            have hbz : w.heap.size ≤ ((w10.setCell ⟨J, 9, none⟩ (.slice aK1 (lineL ids true kids).length cK1)).alloc (.cells #[.int .i64 kind, .string (bs text), .string (bs dest), .string (bs title), .string (bs id), .slice aC1 cls.length cC1, .slice aP1 prs.length cP1, .slice aA1 args.length cA1, .slice aT1 cits.length cT1, .slice aK1 (lineL ids true kids).length cK1] 41)).heap.size := Nat.le_trans hbr (Nat.le_trans HK11.out.size (kept_alloc (w10.setCell ⟨J, 9, none⟩ (.slice aK1 (lineL ids true kids).length cK1)) _).size)
            have jc0 : (w10.setCell ⟨J, 9, none⟩ (.slice aK1 (lineL ids true kids).length cK1)).cell? ⟨J, 0, none⟩ = some (.int .i64 kind) := (HJ11.out).cell 0 _ rfl
            have jc1 : (w10.setCell ⟨J, 9, none⟩ (.slice aK1 (lineL ids true kids).length cK1)).cell? ⟨J, 1, none⟩ = some (.string (bs text)) := (HJ11.out).cell 1 _ rfl
            have jc2 : (w10.setCell ⟨J, 9, none⟩ (.slice aK1 (lineL ids true kids).length cK1)).cell? ⟨J, 2, none⟩ = some (.string (bs dest)) := (HJ11.out).cell 2 _ rfl
            have jc3 : (w10.setCell ⟨J, 9, none⟩ (.slice aK1 (lineL ids true kids).length cK1)).cell? ⟨J, 3, none⟩ = some (.string (bs title)) := (HJ11.out).cell 3 _ rfl
            have jc4 : (w10.setCell ⟨J, 9, none⟩ (.slice aK1 (lineL ids true kids).length cK1)).cell? ⟨J, 4, none⟩ = some (.string (bs id)) := (HJ11.out).cell 4 _ rfl
            have jc5 : (w10.setCell ⟨J, 9, none⟩ (.slice aK1 (lineL ids true kids).length cK1)).cell? ⟨J, 5, none⟩ = some (.slice aC1 cls.length cC1) := (HJ11.out).cell 5 _ rfl
            have jc6 : (w10.setCell ⟨J, 9, none⟩ (.slice aK1 (lineL ids true kids).length cK1)).cell? ⟨J, 6, none⟩ = some (.slice aP1 prs.length cP1) := (HJ11.out).cell 6 _ rfl
            have jc7 : (w10.setCell ⟨J, 9, none⟩ (.slice aK1 (lineL ids true kids).length cK1)).cell? ⟨J, 7, none⟩ = some (.slice aA1 args.length cA1) := (HJ11.out).cell 7 _ rfl
            have jc8 : (w10.setCell ⟨J, 9, none⟩ (.slice aK1 (lineL ids true kids).length cK1)).cell? ⟨J, 8, none⟩ = some (.slice aT1 cits.length cT1) := (HJ11.out).cell 8 _ rfl
            have jc9 : (w10.setCell ⟨J, 9, none⟩ (.slice aK1 (lineL ids true kids).length cK1)).cell? ⟨J, 9, none⟩ = some (.slice aK1 (lineL ids true kids).length cK1) := (HJ11.out).cell 9 _ rfl
            go_wp2_with (refine wpList_append_out (inlK (3 * n + 3)) rfl (.tmp 72) (.tmp 74) 30 rfl i0 _ 192 Try.underlying30 hi hz0 hz1 hz2 rfl (by omega) (by rfl) HG2.out _ _ (.mk kind text dest title id cls prs args cits (lineL ids true kids)) (by rfl) (fun j u hu => HROW.out.cell j u (by rw [← Array.getElem?_toList]; exact hu)) rfl HYZ.out (by have := HZL.out; unfold maxLen; omega) (by have := HZL.out; omega) hbz _ rfl ?_; intro g7 c7' w17 hout7 hgrow7 hat7 hlt7; have HG7 := Lib.hid hgrow7; have HO7 := Lib.hid hout7; clear hgrow7 hat7 hout7)
            have hsel : Inl.mk kind text dest title id cls prs args cits (lineL ids true kids) = Inl.mk kind text dest title id cls prs args cits (linkSel (false && (!true && !hasRefL kids)) (ids nm) nm (lineL ids (true || (false || kind == 9)) kids)) := rfl
            have HOUT : Hid (OutG (InlK (3 * n + 3)) 10 (fun g => w.heap.size ≤ g) w.heap.size 41 w17 (.slice (some ⟨g7, 0, none⟩) ((lineL ids true (xs.take k)).length + 1) c7') (lineL ids true (xs.take (k + 1)))) := by rw [HT.out, ← hsel]; exact HO7.out
            have HKZ : Hid (Kept w w17) := (HKR.out.trans (HK11.out.trans (kept_alloc (w10.setCell ⟨J, 9, none⟩ (.slice aK1 (lineL ids true kids).length cK1)) (.cells #[.int .i64 kind, .string (bs text), .string (bs dest), .string (bs title), .string (bs id), .slice aC1 cls.length cC1, .slice aP1 prs.length cP1, .slice aA1 args.length cA1, .slice aT1 cits.length cT1, .slice aK1 (lineL ids true kids).length cK1] 41)))).trans' ((Only.grown HG7.out).below (Nat.le_trans hbr (Nat.le_trans HK11.out.size (kept_alloc (w10.setCell ⟨J, 9, none⟩ (.slice aK1 (lineL ids true kids).length cK1)) _).size)) (fun i h => (HGR.out.blk i h.symm).1))
            clear hsel hin HYY HG2 HROW HYZ hbz HG7 HO7 HT HGR HKR x9 f9' zJ HB11 HJ11 HC11 HP11 HA11 HT11 HKK11 HK11 HIC HIP HIA HIH HREF HUSE HPP HC HA HTT HKK jc0 jc1 jc2 jc3 jc4 jc5 jc6 jc7 jc8 jc9
            go_wp2_with fail
            go_roundw
            case rel => exact ⟨k + 1, by omega, by go_num, HOUT.out, HKZ.out⟩
            case measure => simp [intOf]; omega
        | false =>
          cases U with
          | true =>
            go_wp2_with fail
            generalize World.setCell _ _ _ = w9 at *
            clear x0 x8 x9 f8' zJ
            refine (HIH.out kids (.slice aK kids.length cK) true w9 (HKK.out.kept HK9.out) f9 HKO.out HOVC.out (HFC.out.kept (HKR.out.trans HK9.out))).mono ?_
            rintro e w10 ⟨vK1, rfl, hk1, hk10⟩
            obtain ⟨aK1, cK1, rfl, lK1⟩ := hk1.form
            have hz9 : J < w9.heap.size := HJ9.out.lt
            have hb10 := HJ9.out.kept hk10
            have ho11 := Only.setCell (w := w10) J 9 (.slice aK1 (lineL ids true kids).length cK1)
            have x9 : w10.cell? ⟨J, 9, none⟩ = some (.slice aK kids.length cK) := hb10.cell 9 _ rfl
            have f9' := hb10.free 9
            have zJ := hb10.lt
            have HJ11 : Hid (Blk (w10.setCell ⟨J, 9, none⟩ (.slice aK1 (lineL ids true kids).length cK1)) J 41 #[.int .i64 kind, .string (bs text), .string (bs dest), .string (bs title), .string (bs id), .slice aC1 cls.length cC1, .slice aP1 prs.length cP1, .slice aA1 args.length cA1, .slice aT1 cits.length cT1, .slice aK1 (lineL ids true kids).length cK1]) := hb10.set 9 _
            have HB11 := Lib.hid ((HB9.out.kept hk10).onl ho11 (by omega))
            have HK11 := Lib.hid (kept_set (HK9.out.trans hk10) J 9 (.slice aK1 (lineL ids true kids).length cK1) hJz)
            have HC11 := Lib.hid ((HC9.out.kept hk10).onlS HIC.out ho11 (fun g _ hs q => by omega))
            have HP11 := Lib.hid ((HP9.out.kept hk10).onlS HIP.out ho11 (fun g _ hs q => by omega))
            have HA11 := Lib.hid ((HA9.out.kept hk10).onlS HIA.out ho11 (fun g _ hs q => by omega))
            have HT11 := Lib.hid ((HT9.out.sam (S' := fun g => J < g) (Sam.kept hk10) (fun _ _ q => q)).sam (S' := fun g => J < g) (Sam.only ho11 (fun g _ hs q => by omega)) (fun _ _ q => q))
            have HKK11 := Lib.hid (hk1.sam (S' := fun g => J < g) (Sam.only ho11 (fun g _ hs q => by omega)) (fun g _ q => by omega))
            clear hk1 hk10 hb10 ho11 HJ9 HB9 HK9 HC9 HP9 HA9 HT9 hz9
            have HRF := Lib.hid (HREF.out (w10.setCell ⟨J, 9, none⟩ (.slice aK1 (lineL ids true kids).length cK1)) (HKK.out.kept HK11.out))
            clear HREF
            have x9z : (w10.setCell ⟨J, 9, none⟩ (.slice aK1 (lineL ids true kids).length cK1)).cell? ⟨I, 9, none⟩ = some (.slice aK kids.length cK) := HB11.out.cell 9 _ rfl
            go_wp2_with fail
            refine HRF.out.mono ?_
            rintro e w12 ⟨rfl, hk12⟩
            clear HRF x9z x9 f9' zJ
            have HK12 := Lib.hid (HK11.out.trans hk12)
            have HB12 := Lib.hid (HB11.out.kept hk12)
            have HJ12 := Lib.hid (HJ11.out.kept hk12)
            have HC12 := Lib.hid (HC11.out.kept hk12)
            have HP12 := Lib.hid (HP11.out.kept hk12)
            have HA12 := Lib.hid (HA11.out.kept hk12)
            have HT12 := Lib.hid (HT11.out.sam (S' := fun g => J < g) (Sam.kept hk12) (fun _ _ q => q))
            have HKK12 := Lib.hid (HKK11.out.kept hk12)
            clear hk12 HK11 HB11 HJ11 HC11 HP11 HA11 HT11 HKK11
            obtain ⟨RR, HRR⟩ : ∃ r, Hid (hasRefL kids = r) := ⟨_, rfl⟩
            rw [HRR.out] at HT ⊢
            cases RR with
            | true =>
              obtain ⟨ar, cr, rfl, hcr, hmr⟩ := HGR.out.form
              have hin : ∀ g, J < g → w.heap.size ≤ g ∧ (Value.slice ar (lineL ids false (xs.take k)).length cr).ownBlock ≠ some g := fun g hg => ⟨by omega, fun q => by have := HGR.out.blk g q; omega⟩
              have HYY : Hid (InlK (3 * n + 3) (fun g => w.heap.size ≤ g ∧ (Value.slice ar (lineL ids false (xs.take k)).length cr).ownBlock ≠ some g) w12 [.int .i64 kind, .string (bs text), .string (bs dest), .string (bs title), .string (bs id), .slice aC1 cls.length cC1, .slice aP1 prs.length cP1, .slice aA1 args.length cA1, .slice aT1 cits.length cT1, .slice aK1 (lineL ids true kids).length cK1] (.mk kind text dest title id cls prs args cits (lineL ids true kids))) :=
                ⟨_, _, _, _, _, rfl, ⟨HC12.out, HIC.out.mono (fun g _ _ q => hin g q)⟩, ⟨HP12.out, HIP.out.mono (fun g _ _ q => hin g q)⟩, ⟨HA12.out, HIA.out.mono (fun g _ _ q => hin g q)⟩, HT12.out.sam (fun _ _ _ => rfl) (fun g _ q => hin g q), (HKK12.out.sam (fun _ _ _ => rfl) (fun g _ q => hin g q)).ups (by omega)⟩
              have HG2 := Lib.hid (HGR.out.kept (inlK (3 * n + 3)) (HK12.out.trans (kept_alloc w12 (.cells #[.int .i64 kind, .string (bs text), .string (bs dest), .string (bs title), .string (bs id), .slice aC1 cls.length cC1, .slice aP1 prs.length cP1, .slice aA1 args.length cA1, .slice aT1 cits.length cT1, .slice aK1 (lineL ids true kids).length cK1] 41))))
              have HROW := Lib.hid (Blk.new w12 41 #[.int .i64 kind, .string (bs text), .string (bs dest), .string (bs title), .string (bs id), .slice aC1 cls.length cC1, .slice aP1 prs.length cP1, .slice aA1 args.length cA1, .slice aT1 cits.length cT1, .slice aK1 (lineL ids true kids).length cK1])
              (try rw [size_setCell] at HROW)
              have HYZ := Lib.hid ((inlK (3 * n + 3)).sam HYY.out (Sam.kept (kept_alloc w12 (.cells #[.int .i64 kind, .string (bs text), .string (bs dest), .string (bs title), .string (bs id), .slice aC1 cls.length cC1, .slice aP1 prs.length cP1, .slice aA1 args.length cA1, .slice aT1 cits.length cT1, .slice aK1 (lineL ids true kids).length cK1] 41))) (fun _ _ q => q))
              have hbz : w.heap.size ≤ (w12.alloc (.cells #[.int .i64 kind, .string (bs text), .string (bs dest), .string (bs title), .string (bs id), .slice aC1 cls.length cC1, .slice aP1 prs.length cP1, .slice aA1 args.length cA1, .slice aT1 cits.length cT1, .slice aK1 (lineL ids true kids).length cK1] 41)).heap.size := Nat.le_trans hbr (Nat.le_trans HK12.out.size (kept_alloc w12 _).size)
              have jc0 : w12.cell? ⟨J, 0, none⟩ = some (.int .i64 kind) := (HJ12.out).cell 0 _ rfl
              have jc1 : w12.cell? ⟨J, 1, none⟩ = some (.string (bs text)) := (HJ12.out).cell 1 _ rfl
              have jc2 : w12.cell? ⟨J, 2, none⟩ = some (.string (bs dest)) := (HJ12.out).cell 2 _ rfl
              have jc3 : w12.cell? ⟨J, 3, none⟩ = some (.string (bs title)) := (HJ12.out).cell 3 _ rfl
              have jc4 : w12.cell? ⟨J, 4, none⟩ = some (.string (bs id)) := (HJ12.out).cell 4 _ rfl
              have jc5 : w12.cell? ⟨J, 5, none⟩ = some (.slice aC1 cls.length cC1) := (HJ12.out).cell 5 _ rfl
              have jc6 : w12.cell? ⟨J, 6, none⟩ = some (.slice aP1 prs.length cP1) := (HJ12.out).cell 6 _ rfl
              have jc7 : w12.cell? ⟨J, 7, none⟩ = some (.slice aA1 args.length cA1) := (HJ12.out).cell 7 _ rfl
              have jc8 : w12.cell? ⟨J, 8, none⟩ = some (.slice aT1 cits.length cT1) := (HJ12.out).cell 8 _ rfl
              have jc9 : w12.cell? ⟨J, 9, none⟩ = some (.slice aK1 (lineL ids true kids).length cK1) := (HJ12.out).cell 9 _ rfl
              go_wp2_with (refine wpList_append_out (inlK (3 * n + 3)) rfl (.tmp 72) (.tmp 74) 30 rfl i0 _ 192 Try.underlying30 hi hz0 hz1 hz2 rfl (by omega) (by rfl) HG2.out _ _ (.mk kind text dest title id cls prs args cits (lineL ids true kids)) (by rfl) (fun j u hu => HROW.out.cell j u (by rw [← Array.getElem?_toList]; exact hu)) rfl HYZ.out (by have := HZL.out; unfold maxLen; omega) (by have := HZL.out; omega) hbz _ rfl ?_; intro g7 c7' w17 hout7 hgrow7 hat7 hlt7; have HG7 := Lib.hid hgrow7; have HO7 := Lib.hid hout7; clear hgrow7 hat7 hout7)
              have hsel : Inl.mk kind text dest title id cls prs args cits (lineL ids true kids) = Inl.mk kind text dest title id cls prs args cits (linkSel (true && (!false && !true)) (ids nm) nm (lineL ids (false || (true || kind == 9)) kids)) := rfl
              have HOUT : Hid (OutG (InlK (3 * n + 3)) 10 (fun g => w.heap.size ≤ g) w.heap.size 41 w17 (.slice (some ⟨g7, 0, none⟩) ((lineL ids false (xs.take k)).length + 1) c7') (lineL ids false (xs.take (k + 1)))) := by rw [HT.out, ← hsel]; exact HO7.out
              have HKZ : Hid (Kept w w17) := (HKR.out.trans (HK12.out.trans (kept_alloc w12 (.cells #[.int .i64 kind, .string (bs text), .string (bs dest), .string (bs title), .string (bs id), .slice aC1 cls.length cC1, .slice aP1 prs.length cP1, .slice aA1 args.length cA1, .slice aT1 cits.length cT1, .slice aK1 (lineL ids true kids).length cK1] 41)))).trans' ((Only.grown HG7.out).below (Nat.le_trans hbr (Nat.le_trans HK12.out.size (kept_alloc w12 _).size)) (fun i h => (HGR.out.blk i h.symm).1))
              clear hsel hin HYY HG2 HROW HYZ hbz HG7 HO7 HT HGR HKR HB12 HJ12 HC12 HP12 HA12 HT12 HKK12 HK12 HIC HIP HIA HIH HUSE HPP HC HA HTT HKK jc0 jc1 jc2 jc3 jc4 jc5 jc6 jc7 jc8 jc9
              go_wp2_with fail
              go_roundw
              case rel => exact ⟨k + 1, by omega, by go_num, HOUT.out, HKZ.out⟩
              case measure => simp [intOf]; omega
            | false =>
              have HU12 := Lib.hid (HUSE.out w12 (HPP.out.kept HK12.out) (HKK.out.kept HK12.out))
              clear HUSE HPP
              have ii0 : w12.cell? ⟨I, 0, none⟩ = some (.int .i64 kind) := (HB12.out).cell 0 _ rfl
              have ii1 : w12.cell? ⟨I, 1, none⟩ = some (.string (bs text)) := (HB12.out).cell 1 _ rfl
              have ii2 : w12.cell? ⟨I, 2, none⟩ = some (.string (bs dest)) := (HB12.out).cell 2 _ rfl
              have ii3 : w12.cell? ⟨I, 3, none⟩ = some (.string (bs title)) := (HB12.out).cell 3 _ rfl
              have ii4 : w12.cell? ⟨I, 4, none⟩ = some (.string (bs id)) := (HB12.out).cell 4 _ rfl
              have ii5 : w12.cell? ⟨I, 5, none⟩ = some (.slice aC cls.length cC) := (HB12.out).cell 5 _ rfl
              have ii6 : w12.cell? ⟨I, 6, none⟩ = some (.slice aP prs.length cP) := (HB12.out).cell 6 _ rfl
              have ii7 : w12.cell? ⟨I, 7, none⟩ = some (.slice aA args.length cA) := (HB12.out).cell 7 _ rfl
              have ii8 : w12.cell? ⟨I, 8, none⟩ = some (.slice aT cits.length cT) := (HB12.out).cell 8 _ rfl
              have ii9 : w12.cell? ⟨I, 9, none⟩ = some (.slice aK kids.length cK) := (HB12.out).cell 9 _ rfl
              go_wp2_with fail
              refine HU12.out.mono ?_
              rintro e w13 ⟨rfl, hk13⟩
              clear HU12 ii0 ii1 ii2 ii3 ii4 ii5 ii6 ii7 ii8 ii9
              have HK13 := Lib.hid (HK12.out.trans hk13)
              have HJ13 := Lib.hid (HJ12.out.kept hk13)
              have HF13 := Lib.hid (HFC.out.kept (HKR.out.trans HK13.out))
              have HL13 := Lib.hid (linkto_any (fun g => J < g) (3 * n + 1) (ids nm) nm (lineL ids true kids) (.slice aK1 (lineL ids true kids).length cK1) w13.drew ((HKK12.out.kept hk13).kept (kept_drewN w13 1)) (HF13.out.len nm))
              unfold LnkP at HL13
              have y0 : w13.cell? ⟨F, 0, none⟩ = some (.map (some Mi)) := HF13.out.blk.cell 0 _ rfl
              have y0' : w13.drew.cell? ⟨F, 0, none⟩ = some (.map (some Mi)) := HF13.out.blk.cell 0 _ rfl
              have j9 : w13.cell? ⟨J, 9, none⟩ = some (.slice aK1 (lineL ids true kids).length cK1) := HJ13.out.cell 9 _ rfl
              have j9' : w13.drew.cell? ⟨J, 9, none⟩ = some (.slice aK1 (lineL ids true kids).length cK1) := HJ13.out.cell 9 _ rfl
              have lk := lookT (P := Try.prog) Try.underlying64 Try.underlying9 w13.drew Mi esI nm _ (zero_str _) (HF13.out.mi.kept (kept_drewN w13 1))
              rw [HF13.out.val nm] at lk
              have HK12' := Lib.hid hk13
              clear hk13
              go_wp2_with fail
              apply cut_region1 (R := fun vL w' => ∃ wx, Kept w13 wx ∧ Lns (fun g => J < g) (3 * n + 3) wx vL [linkI (ids nm) nm (lineL ids true kids)] ∧ w' = wx.setCell ⟨J, 9, none⟩ vL)
              · intro HCC
                go_region_with (first | (go_at_call 74; refine HL13.out.mono ?_; rintro e w14 ⟨vL, rfl, hl14, hk14⟩; obtain ⟨aL, cL, rfl, hcL⟩ := hl14.form; have HK14 := Lib.hid ((kept_drewN w13 1).trans hk14); have hb14 := HJ13.out.kept HK14.out; have z9 : w14.cell? ⟨J, 9, none⟩ = some (.slice aK1 (lineL ids true kids).length cK1) := hb14.cell 9 _ rfl; have zf := hb14.free 9; have zJ := hb14.lt; have HL14 := Lib.hid hl14; clear hl14 hk14 hb14))
                all_goals
                  have hR : ∃ wx, Kept w13 wx ∧ Lns (fun g => J < g) (3 * n + 3) wx (.slice aL 1 cL) [linkI (ids nm) nm (lineL ids true kids)] ∧ w14.setCell ⟨J, 9, none⟩ (.slice aL 1 cL) = wx.setCell ⟨J, 9, none⟩ (.slice aL 1 cL) := ⟨w14, HK14.out, HL14.out.sam (fun _ _ _ => rfl) (fun g hg q => by rcases q with q | q; exact q; (have h1 : w13.heap.size ≤ g := q; have := HJ13.out.lt; omega)), rfl⟩
                  generalize (Value.slice aL 1 cL) = vL at hR ⊢
                  exact HCC vL _ hR
              · intro vL w15 hR
                obtain ⟨wx, hkx, hlx, rfl⟩ := hR
                obtain ⟨aK2, cK2, rfl, lK2⟩ := hlx.form
                have hox := Only.setCell (w := wx) J 9 (.slice aK2 [linkI (ids nm) nm (lineL ids true kids)].length cK2)
                have HJ16 : Hid (Blk (wx.setCell ⟨J, 9, none⟩ (.slice aK2 [linkI (ids nm) nm (lineL ids true kids)].length cK2)) J 41 #[.int .i64 kind, .string (bs text), .string (bs dest), .string (bs title), .string (bs id), .slice aC1 cls.length cC1, .slice aP1 prs.length cP1, .slice aA1 args.length cA1, .slice aT1 cits.length cT1, .slice aK2 [linkI (ids nm) nm (lineL ids true kids)].length cK2]) := (HJ13.out.kept hkx).set 9 _
                have HK16 := Lib.hid (kept_set (HK13.out.trans hkx) J 9 (.slice aK2 [linkI (ids nm) nm (lineL ids true kids)].length cK2) hJz)
                have k2 := HK12'.out.trans hkx
                have HC16 := Lib.hid ((HC12.out.kept k2).onlS HIC.out hox (fun g _ hs q => by omega))
                have HP16 := Lib.hid ((HP12.out.kept k2).onlS HIP.out hox (fun g _ hs q => by omega))
                have HA16 := Lib.hid ((HA12.out.kept k2).onlS HIA.out hox (fun g _ hs q => by omega))
                have HT16 := Lib.hid ((HT12.out.sam (S' := fun g => J < g) (Sam.kept k2) (fun _ _ q => q)).sam (S' := fun g => J < g) (Sam.only hox (fun g _ hs q => by omega)) (fun _ _ q => q))
                have HKK16 := Lib.hid (hlx.sam (S' := fun g => J < g) (Sam.only hox (fun g _ hs q => by omega)) (fun _ _ q => q))
                clear hkx hlx hox k2 HJ13 HK13 HK12' HK12 HJ12 HB12 HC12 HP12 HA12 HT12 HKK12 HF13 HL13 y0 y0' j9 j9' lk
                generalize World.setCell _ _ _ = w16 at *
                obtain ⟨ar, cr, rfl, hcr, hmr⟩ := HGR.out.form
                have hin : ∀ g, J < g → w.heap.size ≤ g ∧ (Value.slice ar (lineL ids false (xs.take k)).length cr).ownBlock ≠ some g := fun g hg => ⟨by omega, fun q => by have := HGR.out.blk g q; omega⟩
                have HYY : Hid (InlK (3 * n + 3) (fun g => w.heap.size ≤ g ∧ (Value.slice ar (lineL ids false (xs.take k)).length cr).ownBlock ≠ some g) w16 [.int .i64 kind, .string (bs text), .string (bs dest), .string (bs title), .string (bs id), .slice aC1 cls.length cC1, .slice aP1 prs.length cP1, .slice aA1 args.length cA1, .slice aT1 cits.length cT1, .slice aK2 [linkI (ids nm) nm (lineL ids true kids)].length cK2] (.mk kind text dest title id cls prs args cits ([linkI (ids nm) nm (lineL ids true kids)]))) :=
                  ⟨_, _, _, _, _, rfl, ⟨HC16.out, HIC.out.mono (fun g _ _ q => hin g q)⟩, ⟨HP16.out, HIP.out.mono (fun g _ _ q => hin g q)⟩, ⟨HA16.out, HIA.out.mono (fun g _ _ q => hin g q)⟩, HT16.out.sam (fun _ _ _ => rfl) (fun g _ q => hin g q), (HKK16.out.sam (fun _ _ _ => rfl) (fun g _ q => hin g q)).ups (by omega)⟩
                have HG2 := Lib.hid (HGR.out.kept (inlK (3 * n + 3)) (HK16.out.trans (kept_alloc w16 (.cells #[.int .i64 kind, .string (bs text), .string (bs dest), .string (bs title), .string (bs id), .slice aC1 cls.length cC1, .slice aP1 prs.length cP1, .slice aA1 args.length cA1, .slice aT1 cits.length cT1, .slice aK2 [linkI (ids nm) nm (lineL ids true kids)].length cK2] 41))))
                have HROW := Lib.hid (Blk.new w16 41 #[.int .i64 kind, .string (bs text), .string (bs dest), .string (bs title), .string (bs id), .slice aC1 cls.length cC1, .slice aP1 prs.length cP1, .slice aA1 args.length cA1, .slice aT1 cits.length cT1, .slice aK2 [linkI (ids nm) nm (lineL ids true kids)].length cK2])
                (try rw [size_setCell] at HROW)
                have HYZ := Lib.hid ((inlK (3 * n + 3)).sam HYY.out (Sam.kept (kept_alloc w16 (.cells #[.int .i64 kind, .string (bs text), .string (bs dest), .string (bs title), .string (bs id), .slice aC1 cls.length cC1, .slice aP1 prs.length cP1, .slice aA1 args.length cA1, .slice aT1 cits.length cT1, .slice aK2 [linkI (ids nm) nm (lineL ids true kids)].length cK2] 41))) (fun _ _ q => q))
                have hbz : w.heap.size ≤ (w16.alloc (.cells #[.int .i64 kind, .string (bs text), .string (bs dest), .string (bs title), .string (bs id), .slice aC1 cls.length cC1, .slice aP1 prs.length cP1, .slice aA1 args.length cA1, .slice aT1 cits.length cT1, .slice aK2 [linkI (ids nm) nm (lineL ids true kids)].length cK2] 41)).heap.size := Nat.le_trans hbr (Nat.le_trans HK16.out.size (kept_alloc w16 _).size)
                have jc0 : w16.cell? ⟨J, 0, none⟩ = some (.int .i64 kind) := (HJ16.out).cell 0 _ rfl
                have jc1 : w16.cell? ⟨J, 1, none⟩ = some (.string (bs text)) := (HJ16.out).cell 1 _ rfl
                have jc2 : w16.cell? ⟨J, 2, none⟩ = some (.string (bs dest)) := (HJ16.out).cell 2 _ rfl
                have jc3 : w16.cell? ⟨J, 3, none⟩ = some (.string (bs title)) := (HJ16.out).cell 3 _ rfl
                have jc4 : w16.cell? ⟨J, 4, none⟩ = some (.string (bs id)) := (HJ16.out).cell 4 _ rfl
                have jc5 : w16.cell? ⟨J, 5, none⟩ = some (.slice aC1 cls.length cC1) := (HJ16.out).cell 5 _ rfl
                have jc6 : w16.cell? ⟨J, 6, none⟩ = some (.slice aP1 prs.length cP1) := (HJ16.out).cell 6 _ rfl
                have jc7 : w16.cell? ⟨J, 7, none⟩ = some (.slice aA1 args.length cA1) := (HJ16.out).cell 7 _ rfl
                have jc8 : w16.cell? ⟨J, 8, none⟩ = some (.slice aT1 cits.length cT1) := (HJ16.out).cell 8 _ rfl
                have jc9 : w16.cell? ⟨J, 9, none⟩ = some (.slice aK2 [linkI (ids nm) nm (lineL ids true kids)].length cK2) := (HJ16.out).cell 9 _ rfl
                go_wp2_with (refine wpList_append_out (inlK (3 * n + 3)) rfl (.tmp 72) (.tmp 74) 30 rfl i0 _ 192 Try.underlying30 hi hz0 hz1 hz2 rfl (by omega) (by rfl) HG2.out _ _ (.mk kind text dest title id cls prs args cits ([linkI (ids nm) nm (lineL ids true kids)])) (by rfl) (fun j u hu => HROW.out.cell j u (by rw [← Array.getElem?_toList]; exact hu)) rfl HYZ.out (by have := HZL.out; unfold maxLen; omega) (by have := HZL.out; omega) hbz _ rfl ?_; intro g7 c7' w17 hout7 hgrow7 hat7 hlt7; have HG7 := Lib.hid hgrow7; have HO7 := Lib.hid hout7; clear hgrow7 hat7 hout7)
                have hsel : Inl.mk kind text dest title id cls prs args cits ([linkI (ids nm) nm (lineL ids true kids)]) = Inl.mk kind text dest title id cls prs args cits (linkSel (true && (!false && !false)) (ids nm) nm (lineL ids (false || (true || kind == 9)) kids)) := rfl
                have HOUT : Hid (OutG (InlK (3 * n + 3)) 10 (fun g => w.heap.size ≤ g) w.heap.size 41 w17 (.slice (some ⟨g7, 0, none⟩) ((lineL ids false (xs.take k)).length + 1) c7') (lineL ids false (xs.take (k + 1)))) := by rw [HT.out, ← hsel]; exact HO7.out
                have HKZ : Hid (Kept w w17) := (HKR.out.trans (HK16.out.trans (kept_alloc w16 (.cells #[.int .i64 kind, .string (bs text), .string (bs dest), .string (bs title), .string (bs id), .slice aC1 cls.length cC1, .slice aP1 prs.length cP1, .slice aA1 args.length cA1, .slice aT1 cits.length cT1, .slice aK2 [linkI (ids nm) nm (lineL ids true kids)].length cK2] 41)))).trans' ((Only.grown HG7.out).below (Nat.le_trans hbr (Nat.le_trans HK16.out.size (kept_alloc w16 _).size)) (fun i h => (HGR.out.blk i h.symm).1))
                clear hsel hin HYY HG2 HROW HYZ hbz HG7 HO7 HT HGR HKR HJ16 HC16 HP16 HA16 HT16 HKK16 HK16 HIC HIP HIA HIH HC HA HTT HKK jc0 jc1 jc2 jc3 jc4 jc5 jc6 jc7 jc8 jc9
                go_wp2_with fail
                go_roundw
                case rel => exact ⟨k + 1, by omega, by go_num, HOUT.out, HKZ.out⟩
                case measure => simp [intOf]; omega
          | false =>
            obtain ⟨z9, HZ9⟩ : ∃ z, Hid ((kind == 9) = z) := ⟨_, Lib.hid rfl⟩
            have q9 : (kind == 9) = z9 := HZ9.out
            rw [q9] at HT
            go_wp2_with fail
            generalize World.setCell _ _ _ = w9 at *
            clear x0 x8 x9 f8' zJ
            refine (HIH.out kids (.slice aK kids.length cK) z9 w9 (HKK.out.kept HK9.out) f9 HKO.out HOVC.out (HFC.out.kept (HKR.out.trans HK9.out))).mono ?_
            rintro e w10 ⟨vK1, rfl, hk1, hk10⟩
            obtain ⟨aK1, cK1, rfl, lK1⟩ := hk1.form
            have hz9 : J < w9.heap.size := HJ9.out.lt
            have hb10 := HJ9.out.kept hk10
            have ho11 := Only.setCell (w := w10) J 9 (.slice aK1 (lineL ids z9 kids).length cK1)
            have x9 : w10.cell? ⟨J, 9, none⟩ = some (.slice aK kids.length cK) := hb10.cell 9 _ rfl
            have f9' := hb10.free 9
            have zJ := hb10.lt
            have HJ11 : Hid (Blk (w10.setCell ⟨J, 9, none⟩ (.slice aK1 (lineL ids z9 kids).length cK1)) J 41 #[.int .i64 kind, .string (bs text), .string (bs dest), .string (bs title), .string (bs id), .slice aC1 cls.length cC1, .slice aP1 prs.length cP1, .slice aA1 args.length cA1, .slice aT1 cits.length cT1, .slice aK1 (lineL ids z9 kids).length cK1]) := hb10.set 9 _
            have HB11 := Lib.hid ((HB9.out.kept hk10).onl ho11 (by omega))
            have HK11 := Lib.hid (kept_set (HK9.out.trans hk10) J 9 (.slice aK1 (lineL ids z9 kids).length cK1) hJz)
            have HC11 := Lib.hid ((HC9.out.kept hk10).onlS HIC.out ho11 (fun g _ hs q => by omega))
            have HP11 := Lib.hid ((HP9.out.kept hk10).onlS HIP.out ho11 (fun g _ hs q => by omega))
            have HA11 := Lib.hid ((HA9.out.kept hk10).onlS HIA.out ho11 (fun g _ hs q => by omega))
            have HT11 := Lib.hid ((HT9.out.sam (S' := fun g => J < g) (Sam.kept hk10) (fun _ _ q => q)).sam (S' := fun g => J < g) (Sam.only ho11 (fun g _ hs q => by omega)) (fun _ _ q => q))
            have HKK11 := Lib.hid (hk1.sam (S' := fun g => J < g) (Sam.only ho11 (fun g _ hs q => by omega)) (fun g _ q => by omega))
            clear hk1 hk10 hb10 ho11 HJ9 HB9 HK9 HC9 HP9 HA9 HT9 hz9
            obtain ⟨ar, cr, rfl, hcr, hmr⟩ := HGR.out.form
            have hin : ∀ g, J < g → w.heap.size ≤ g ∧ (Value.slice ar (lineL ids false (xs.take k)).length cr).ownBlock ≠ some g := fun g hg => ⟨by omega, fun q => by have := HGR.out.blk g q; omega⟩
            have HYY : Hid (InlK (3 * n + 3) (fun g => w.heap.size ≤ g ∧ (Value.slice ar (lineL ids false (xs.take k)).length cr).ownBlock ≠ some g) (w10.setCell ⟨J, 9, none⟩ (.slice aK1 (lineL ids z9 kids).length cK1)) [.int .i64 kind, .string (bs text), .string (bs dest), .string (bs title), .string (bs id), .slice aC1 cls.length cC1, .slice aP1 prs.length cP1, .slice aA1 args.length cA1, .slice aT1 cits.length cT1, .slice aK1 (lineL ids z9 kids).length cK1] (.mk kind text dest title id cls prs args cits (lineL ids z9 kids))) :=
              ⟨_, _, _, _, _, rfl, ⟨HC11.out, HIC.out.mono (fun g _ _ q => hin g q)⟩, ⟨HP11.out, HIP.out.mono (fun g _ _ q => hin g q)⟩, ⟨HA11.out, HIA.out.mono (fun g _ _ q => hin g q)⟩, HT11.out.sam (fun _ _ _ => rfl) (fun g _ q => hin g q), (HKK11.out.sam (fun _ _ _ => rfl) (fun g _ q => hin g q)).ups (by omega)⟩
            have HG2 := Lib.hid (HGR.out.kept (inlK (3 * n + 3)) (HK11.out.trans (kept_alloc (w10.setCell ⟨J, 9, none⟩ (.slice aK1 (lineL ids z9 kids).length cK1)) (.cells #[.int .i64 kind, .string (bs text), .string (bs dest), .string (bs title), .string (bs id), .slice aC1 cls.length cC1, .slice aP1 prs.length cP1, .slice aA1 args.length cA1, .slice aT1 cits.length cT1, .slice aK1 (lineL ids z9 kids).length cK1] 41))))
            have HROW := Lib.hid (Blk.new (w10.setCell ⟨J, 9, none⟩ (.slice aK1 (lineL ids z9 kids).length cK1)) 41 #[.int .i64 kind, .string (bs text), .string (bs dest), .string (bs title), .string (bs id), .slice aC1 cls.length cC1, .slice aP1 prs.length cP1, .slice aA1 args.length cA1, .slice aT1 cits.length cT1, .slice aK1 (lineL ids z9 kids).length cK1])
            (try rw [size_setCell] at HROW)
            have HYZ := Lib.hid ((inlK (3 * n + 3)).sam HYY.out (Sam.kept (kept_alloc (w10.setCell ⟨J, 9, none⟩ (.slice aK1 (lineL ids z9 kids).length cK1)) (.cells #[.int .i64 kind, .string (bs text), .string (bs dest), .string (bs title), .string (bs id), .slice aC1 cls.length cC1, .slice aP1 prs.length cP1, .slice aA1 args.length cA1, .slice aT1 cits.length cT1, .slice aK1 (lineL ids z9 kids).length cK1] 41))) (fun _ _ q => q))
            have hbz : w.heap.size ≤ ((w10.setCell ⟨J, 9, none⟩ (.slice aK1 (lineL ids z9 kids).length cK1)).alloc (.cells #[.int .i64 kind, .string (bs text), .string (bs dest), .string (bs title), .string (bs id), .slice aC1 cls.length cC1, .slice aP1 prs.length cP1, .slice aA1 args.length cA1, .slice aT1 cits.length cT1, .slice aK1 (lineL ids z9 kids).length cK1] 41)).heap.size := Nat.le_trans hbr (Nat.le_trans HK11.out.size (kept_alloc (w10.setCell ⟨J, 9, none⟩ (.slice aK1 (lineL ids z9 kids).length cK1)) _).size)
            have jc0 : (w10.setCell ⟨J, 9, none⟩ (.slice aK1 (lineL ids z9 kids).length cK1)).cell? ⟨J, 0, none⟩ = some (.int .i64 kind) := (HJ11.out).cell 0 _ rfl
            have jc1 : (w10.setCell ⟨J, 9, none⟩ (.slice aK1 (lineL ids z9 kids).length cK1)).cell? ⟨J, 1, none⟩ = some (.string (bs text)) := (HJ11.out).cell 1 _ rfl
            have jc2 : (w10.setCell ⟨J, 9, none⟩ (.slice aK1 (lineL ids z9 kids).length cK1)).cell? ⟨J, 2, none⟩ = some (.string (bs dest)) := (HJ11.out).cell 2 _ rfl
            have jc3 : (w10.setCell ⟨J, 9, none⟩ (.slice aK1 (lineL ids z9 kids).length cK1)).cell? ⟨J, 3, none⟩ = some (.string (bs title)) := (HJ11.out).cell 3 _ rfl
            have jc4 : (w10.setCell ⟨J, 9, none⟩ (.slice aK1 (lineL ids z9 kids).length cK1)).cell? ⟨J, 4, none⟩ = some (.string (bs id)) := (HJ11.out).cell 4 _ rfl
            have jc5 : (w10.setCell ⟨J, 9, none⟩ (.slice aK1 (lineL ids z9 kids).length cK1)).cell? ⟨J, 5, none⟩ = some (.slice aC1 cls.length cC1) := (HJ11.out).cell 5 _ rfl
            have jc6 : (w10.setCell ⟨J, 9, none⟩ (.slice aK1 (lineL ids z9 kids).length cK1)).cell? ⟨J, 6, none⟩ = some (.slice aP1 prs.length cP1) := (HJ11.out).cell 6 _ rfl
            have jc7 : (w10.setCell ⟨J, 9, none⟩ (.slice aK1 (lineL ids z9 kids).length cK1)).cell? ⟨J, 7, none⟩ = some (.slice aA1 args.length cA1) := (HJ11.out).cell 7 _ rfl
            have jc8 : (w10.setCell ⟨J, 9, none⟩ (.slice aK1 (lineL ids z9 kids).length cK1)).cell? ⟨J, 8, none⟩ = some (.slice aT1 cits.length cT1) := (HJ11.out).cell 8 _ rfl
            have jc9 : (w10.setCell ⟨J, 9, none⟩ (.slice aK1 (lineL ids z9 kids).length cK1)).cell? ⟨J, 9, none⟩ = some (.slice aK1 (lineL ids z9 kids).length cK1) := (HJ11.out).cell 9 _ rfl
            go_wp2_with (refine wpList_append_out (inlK (3 * n + 3)) rfl (.tmp 72) (.tmp 74) 30 rfl i0 _ 192 Try.underlying30 hi hz0 hz1 hz2 rfl (by omega) (by rfl) HG2.out _ _ (.mk kind text dest title id cls prs args cits (lineL ids z9 kids)) (by rfl) (fun j u hu => HROW.out.cell j u (by rw [← Array.getElem?_toList]; exact hu)) rfl HYZ.out (by have := HZL.out; unfold maxLen; omega) (by have := HZL.out; omega) hbz _ rfl ?_; intro g7 c7' w17 hout7 hgrow7 hat7 hlt7; have HG7 := Lib.hid hgrow7; have HO7 := Lib.hid hout7; clear hgrow7 hat7 hout7)
            have hsel : Inl.mk kind text dest title id cls prs args cits (lineL ids z9 kids) = Inl.mk kind text dest title id cls prs args cits (linkSel (false && (!false && !hasRefL kids)) (ids nm) nm (lineL ids (false || (false || z9)) kids)) := rfl
            have HOUT : Hid (OutG (InlK (3 * n + 3)) 10 (fun g => w.heap.size ≤ g) w.heap.size 41 w17 (.slice (some ⟨g7, 0, none⟩) ((lineL ids false (xs.take k)).length + 1) c7') (lineL ids false (xs.take (k + 1)))) := by rw [HT.out, ← hsel]; exact HO7.out
            have HKZ : Hid (Kept w w17) := (HKR.out.trans (HK11.out.trans (kept_alloc (w10.setCell ⟨J, 9, none⟩ (.slice aK1 (lineL ids z9 kids).length cK1)) (.cells #[.int .i64 kind, .string (bs text), .string (bs dest), .string (bs title), .string (bs id), .slice aC1 cls.length cC1, .slice aP1 prs.length cP1, .slice aA1 args.length cA1, .slice aT1 cits.length cT1, .slice aK1 (lineL ids z9 kids).length cK1] 41)))).trans' ((Only.grown HG7.out).below (Nat.le_trans hbr (Nat.le_trans HK11.out.size (kept_alloc (w10.setCell ⟨J, 9, none⟩ (.slice aK1 (lineL ids z9 kids).length cK1)) _).size)) (fun i h => (HGR.out.blk i h.symm).1))
            clear hsel hin HYY HG2 HROW HYZ hbz HG7 HO7 HT HGR HKR x9 f9' zJ HB11 HJ11 HC11 HP11 HA11 HT11 HKK11 HK11 HIC HIP HIA HIH HREF HUSE HPP HC HA HTT HKK jc0 jc1 jc2 jc3 jc4 jc5 jc6 jc7 jc8 jc9
            go_wp2_with fail
            go_roundw
            case rel => exact ⟨k + 1, by omega, by go_num, HOUT.out, HKZ.out⟩
            case measure => simp [intOf]; omega
      · obtain rfl : k = xs.length := by omega
        have HF := Lib.hid (HFIN.out _ wr HGR.out HKR.out)
        clear HFIN HTK HTL HIH HGR HKR HV HOK HOV HFC
        go_wp2_with fail
        (try go_ret)
        exact HF.out
end Go.Proofs.Ythbnahagfojfbaa

/- slices.insertionSortCmpFunc at blocks. Conditions: what is asked of the comparison. -/
set_option linter.all false
namespace Go.Proofs.Ythbnahagfojfbaa
open Go.RowKit Go.Sort

instance : Inhabited Blo := ⟨.mk 0 0 [] [] [] [] [] [] [] [] []⟩
def ltB (cf : Blo → Blo → Int) (x y : Blo) : Bool := decide (cf x y < 0)
theorem toList_at {d : Array Blo} {i : Nat} (h : i < d.size) : d.toList[i]? = some d[i]! := by
  rw [Array.getElem?_toList, Array.getElem?_eq_getElem h, getElem!_pos d i h]
theorem swp_list (d : Array Blo) (i j : Nat) (hi : i < d.size) (hj : j < d.size) : (swp d i j).toList = (d.toList.set i d[j]!).set j d[i]! := by
  unfold swp
  rw [Array.toList_setIfInBounds, Array.toList_setIfInBounds]
theorem swp_mem {d : Array Blo} {i j : Nat} (hi : i < d.size) (hj : j < d.size) {p : Blo → Prop} (h : ∀ x ∈ d.toList, p x) : ∀ x ∈ (swp d i j).toList, p x := by
  intro x hx
  rw [swp_list d i j hi hj] at hx
  have at_ : ∀ i, i < d.size → p d[i]! := fun i q => h _ (List.mem_of_getElem? (toList_at q))
  rcases List.mem_or_eq_of_mem_set hx with hx | rfl
  · rcases List.mem_or_eq_of_mem_set hx with hx | rfl
    · exact h x hx
    · exact at_ j hj
  · exact at_ i hi
def SrtP (N M g cap base : Nat) (A : Nat → Prop) (d' : Array Blo) (w : World) (e : Ending) (w' : World) : Prop := e = .returned (.tuple #[]) ∧ OutG (BloK N M) 11 A base 37 w' (.slice (some ⟨g, 0, none⟩) d'.size cap) d'.toList ∧ Only (fun i => i = g) w w'
set_option maxRecDepth 100000 in
set_option maxHeartbeats 6400000 in
theorem isort_any (N M C base : Nat) (A : Nat → Prop) (cf : Blo → Blo → Int) (good : Blo → Prop) (g cap a b : Nat) (d : Array Blo) (w : World)
    (hO : OutG (BloK N M) 11 A base 37 w (.slice (some ⟨g, 0, none⟩) d.size cap) d.toList) (hg : ∀ x ∈ d.toList, good x) (hab : a ≤ b) (hb : b ≤ d.size) (hsz : d.size ≤ 1000000)
    (hcmp : ∀ (w' : World) (cs ds : List Value) (x y : Blo), Only (fun i => i = g) w w' → good x → good y → BloK N M (fun i => A i ∧ g ≠ i) w' cs x → BloK N M (fun i => A i ∧ g ≠ i) w' ds y →
      Calls Try.prog 20 #[.agg cs.toArray, .agg ds.toArray, .pointer (some ⟨C, 0, none⟩)] w' fun e w'' => e = .returned (.int .i64 (cf x y)) ∧ Kept w' w'') :
    Calls Try.prog 75 #[.slice (some ⟨g, 0, none⟩) d.size cap, .int .i64 a, .int .i64 b, .func (.func 20) #[] #[.pointer (some ⟨C, 0, none⟩)]] w
      (SrtP N M g cap base A (insertionSort (ltB cf) d a b) w) := by
  have HFIN : Hid (∀ (w' : World) (dk : Array Blo), OutG (BloK N M) 11 A base 37 w' (.slice (some ⟨g, 0, none⟩) d.size cap) dk.toList → dk.size = d.size → Only (fun i => i = g) w w' → insOuter (ltB cf) a b b dk = insOuter (ltB cf) a b (a + 1) d → SrtP N M g cap base A (insertionSort (ltB cf) d a b) w (.returned (.tuple #[])) w') := by
    intro w' dk h1 h2 h3 h4
    have h5 : insertionSort (ltB cf) d a b = dk := by unfold insertionSort; rw [← h4, insOuter_stop _ _ _ _ _ (Nat.lt_irrefl b)]
    rw [h5]
    exact ⟨rfl, by rw [h2]; exact h1, h3⟩
  generalize hP : SrtP N M g cap base A (insertionSort (ltB cf) d a b) w = P at *
  have HC := Lib.hid hcmp
  have HO := Lib.hid hO
  have HG := Lib.hid hg
  clear hcmp hO hg hP
  go_enter Try.func75, Try.ntmps75
  go_wp2_with fail
  go_loopw [8] (fun vi wr => ∃ (i : Nat) (dk : Array Blo), vi = .int .i64 i ∧ a < i ∧ (i ≤ b ∨ i = a + 1) ∧ dk.size = d.size ∧ Hid (OutG (BloK N M) 11 A base 37 wr (.slice (some ⟨g, 0, none⟩) d.size cap) dk.toList) ∧ Hid (Only (fun i => i = g) w wr) ∧ Hid (∀ x ∈ dk.toList, good x) ∧ Hid (insOuter (ltB cf) a b i dk = insOuter (ltB cf) a b (a + 1) d)) (fun vi _ => b + 1 - (intOf vi).toNat)
  case atStart => exact ⟨a + 1, d, by go_num, by omega, .inr rfl, rfl, HO.out, Only.of_kept (Kept.refl w), HG.out, rfl⟩
  case round =>
    obtain ⟨i, dk, rfl, hai, hib, hsk, HOR, HKR, HGR, HIR⟩ := hrel
    by_cases hlt : i < b
    · have hltz : (i : Int) < (b : Int) := by omega
      go_wp2_with fail
      obtain ⟨wo, hwo⟩ : ∃ wo : World, wo = wr := ⟨_, rfl⟩
      rw [← hwo] at HOR HKR
      rw [← hwo]
      go_loopw [9] (fun vj wr => ∃ (j : Nat) (dj : Array Blo), vj = .int .i64 j ∧ a ≤ j ∧ j ≤ i ∧ dj.size = d.size ∧ Hid (OutG (BloK N M) 11 A base 37 wr (.slice (some ⟨g, 0, none⟩) d.size cap) dj.toList) ∧ Hid (Only (fun i => i = g) w wr) ∧ Hid (∀ x ∈ dj.toList, good x) ∧ Hid (insInner (ltB cf) a j dj = insInner (ltB cf) a i dk)) (fun vj _ => (intOf vj).toNat)
      case atStart => exact ⟨i, dk, rfl, by omega, Nat.le_refl _, hsk, HOR.out, HKR.out, HGR.out, rfl⟩
      case round =>
        clear HOR HKR HGR hwo
        obtain ⟨j, dj, rfl, haj, hji, hsj, HOJ, HKJ, HGJ, HIJ⟩ := hrel
        have OUT : Hid ((j ≤ a ∨ ltB cf dj[j]! dj[j - 1]! = false) → insOuter (ltB cf) a b (i + 1) dj = insOuter (ltB cf) a b (a + 1) d) := fun hs => by
          rw [← HIR.out, insOuter_go _ _ _ _ _ hlt, ← HIJ.out, insInner_stop _ _ _ _ hs]
        by_cases hja : a < j
        · obtain ⟨jp, HJP⟩ : ∃ jp, Hid (j = jp + 1) := ⟨j - 1, Lib.hid (by omega)⟩
          have hj1 : j < dj.size := by omega
          have hj2 : jp < dj.size := by have := HJP.out; omega
          obtain ⟨x, HX⟩ : ∃ x, Hid (dj[j]! = x) := ⟨_, rfl⟩
          obtain ⟨y, HY⟩ : ∃ x, Hid (dj[jp]! = x) := ⟨_, rfl⟩
          have gx := HGJ.out _ (List.mem_of_getElem? (toList_at hj1))
          have gy := HGJ.out _ (List.mem_of_getElem? (toList_at hj2))
          obtain ⟨g1, cx, e1, hb1, hlt1, -, -, hlx, hcx, hrx⟩ := HOJ.out.at_ j _ (toList_at hj1)
          obtain ⟨g2, cy, e2, -, -, -, -, hly, hcy, hry⟩ := HOJ.out.at_ jp _ (toList_at hj2)
          cases e1; cases e2
          have OUT2 : Hid (j ≤ a ∨ ltB cf x y = false → insOuter (ltB cf) a b (i + 1) dj = insOuter (ltB cf) a b (a + 1) d) := fun h => OUT.out (by
            rw [HX.out, show j - 1 = jp by have := HJP.out; omega, HY.out]; exact h)
          have NXT : Hid (ltB cf x y = true → insInner (ltB cf) a jp (swp dj j jp) = insInner (ltB cf) a i dk) := fun h => by
            have e := HJP.out
            rw [← HIJ.out, insInner_go (ltB cf) a j dj hja (by rw [HX.out, show j - 1 = jp by omega, HY.out]; exact h), show j - 1 = jp by omega]
          have HSW : Hid ((swp dj j jp).toList = (dj.toList.set j y).set jp x) := by
            have := swp_list dj j jp hj1 hj2
            rw [HX.out, HY.out] at this; exact this
          have HGS : Hid (∀ x ∈ (swp dj j jp).toList, good x) := swp_mem hj1 hj2 HGJ.out
          rw [HX.out] at gx hrx
          rw [HY.out] at gy hry
          have HRX0 := Lib.hid hrx
          have HRY0 := Lib.hid hry
          obtain ⟨vC, vP, vL, vK, rfl, ⟨hC, -⟩, ⟨hPP, -⟩, hL, hK⟩ := hrx
          obtain ⟨vC', vP', vL', vK', rfl, ⟨hC', -⟩, ⟨hPP', -⟩, hL', hK'⟩ := hry
          obtain ⟨kind, level, info, text, dest, title, id, cls, prs, line, kids⟩ := x
          obtain ⟨kind', level', info', text', dest', title', id', cls', prs', line', kids'⟩ := y
          simp only [Blo.cls, Blo.prs, Blo.line, Blo.kids] at hC hPP hL hK hC' hPP' hL' hK'
          obtain ⟨aC, cC, rfl, lC⟩ := hC.shape
          obtain ⟨aP, cP, rfl, lP⟩ := hPP.shape
          obtain ⟨aL, cL, rfl, lL⟩ := hL.form
          obtain ⟨aK, cK, rfl, lK⟩ := hK.form
          obtain ⟨aC', cC', rfl, lC'⟩ := hC'.shape
          obtain ⟨aP', cP', rfl, lP'⟩ := hPP'.shape
          obtain ⟨aL', cL', rfl, lL'⟩ := hL'.form
          obtain ⟨aK', cK', rfl, lK'⟩ := hK'.form
          unfold bloC at hcx hcy HRX0 HRY0
          simp only [Blo.kind, Blo.level, Blo.info, Blo.text, Blo.dest, Blo.title, Blo.id] at hcx hcy HRX0 HRY0
          obtain ⟨op, hp11⟩ : ∃ op, jp * 11 = op := ⟨_, rfl⟩
          have hj11 : j * 11 = op + 11 := by have := HJP.out; omega
          have x0 : wr.cell? ⟨g, op + 11, none⟩ = some (.int .i64 kind) := by have := hcx 0 _ rfl; rw [hj11, Nat.add_assoc] at this; exact this
          have x1 : wr.cell? ⟨g, op + 12, none⟩ = some (.int .i64 level) := by have := hcx 1 _ rfl; rw [hj11, Nat.add_assoc] at this; exact this
          have x2 : wr.cell? ⟨g, op + 13, none⟩ = some (.string (bs info)) := by have := hcx 2 _ rfl; rw [hj11, Nat.add_assoc] at this; exact this
          have x3 : wr.cell? ⟨g, op + 14, none⟩ = some (.string (bs text)) := by have := hcx 3 _ rfl; rw [hj11, Nat.add_assoc] at this; exact this
          have x4 : wr.cell? ⟨g, op + 15, none⟩ = some (.string (bs dest)) := by have := hcx 4 _ rfl; rw [hj11, Nat.add_assoc] at this; exact this
          have x5 : wr.cell? ⟨g, op + 16, none⟩ = some (.string (bs title)) := by have := hcx 5 _ rfl; rw [hj11, Nat.add_assoc] at this; exact this
          have x6 : wr.cell? ⟨g, op + 17, none⟩ = some (.string (bs id)) := by have := hcx 6 _ rfl; rw [hj11, Nat.add_assoc] at this; exact this
          have x7 : wr.cell? ⟨g, op + 18, none⟩ = some (.slice aC cls.length cC) := by have := hcx 7 _ rfl; rw [hj11, Nat.add_assoc] at this; exact this
          have x8 : wr.cell? ⟨g, op + 19, none⟩ = some (.slice aP prs.length cP) := by have := hcx 8 _ rfl; rw [hj11, Nat.add_assoc] at this; exact this
          have x9 : wr.cell? ⟨g, op + 20, none⟩ = some (.slice aL line.length cL) := by have := hcx 9 _ rfl; rw [hj11, Nat.add_assoc] at this; exact this
          have x10 : wr.cell? ⟨g, op + 21, none⟩ = some (.slice aK kids.length cK) := by have := hcx 10 _ rfl; rw [hj11, Nat.add_assoc] at this; exact this
          have y0 : wr.cell? ⟨g, op, none⟩ = some (.int .i64 kind') := by have := hcy 0 _ rfl; rw [hp11] at this; exact this
          have y1 : wr.cell? ⟨g, op + 1, none⟩ = some (.int .i64 level') := by have := hcy 1 _ rfl; rw [hp11] at this; exact this
          have y2 : wr.cell? ⟨g, op + 2, none⟩ = some (.string (bs info')) := by have := hcy 2 _ rfl; rw [hp11] at this; exact this
          have y3 : wr.cell? ⟨g, op + 3, none⟩ = some (.string (bs text')) := by have := hcy 3 _ rfl; rw [hp11] at this; exact this
          have y4 : wr.cell? ⟨g, op + 4, none⟩ = some (.string (bs dest')) := by have := hcy 4 _ rfl; rw [hp11] at this; exact this
          have y5 : wr.cell? ⟨g, op + 5, none⟩ = some (.string (bs title')) := by have := hcy 5 _ rfl; rw [hp11] at this; exact this
          have y6 : wr.cell? ⟨g, op + 6, none⟩ = some (.string (bs id')) := by have := hcy 6 _ rfl; rw [hp11] at this; exact this
          have y7 : wr.cell? ⟨g, op + 7, none⟩ = some (.slice aC' cls'.length cC') := by have := hcy 7 _ rfl; rw [hp11] at this; exact this
          have y8 : wr.cell? ⟨g, op + 8, none⟩ = some (.slice aP' prs'.length cP') := by have := hcy 8 _ rfl; rw [hp11] at this; exact this
          have y9 : wr.cell? ⟨g, op + 9, none⟩ = some (.slice aL' line'.length cL') := by have := hcy 9 _ rfl; rw [hp11] at this; exact this
          have y10 : wr.cell? ⟨g, op + 10, none⟩ = some (.slice aK' kids'.length cK') := by have := hcy 10 _ rfl; rw [hp11] at this; exact this
          have hzg : g < wr.heap.size := hlt1
          have HRX := Lib.hid HRX0.out
          have HRY := Lib.hid HRY0.out
          have wj : IntKind.i64.wrap ((j : Int) - 1) = (jp : Int) := by rw [IntKind.wrap_i64]; have := HJP.out; omega
          have HS : Hid (∀ w', Kept wr w' → (w'.cell? ⟨g, op + 11, none⟩ = some (.int .i64 kind) ∧ w'.cell? ⟨g, op + 12, none⟩ = some (.int .i64 level) ∧ w'.cell? ⟨g, op + 13, none⟩ = some (.string (bs info)) ∧ w'.cell? ⟨g, op + 14, none⟩ = some (.string (bs text)) ∧ w'.cell? ⟨g, op + 15, none⟩ = some (.string (bs dest)) ∧ w'.cell? ⟨g, op + 16, none⟩ = some (.string (bs title)) ∧ w'.cell? ⟨g, op + 17, none⟩ = some (.string (bs id)) ∧ w'.cell? ⟨g, op + 18, none⟩ = some (.slice aC cls.length cC) ∧ w'.cell? ⟨g, op + 19, none⟩ = some (.slice aP prs.length cP) ∧ w'.cell? ⟨g, op + 20, none⟩ = some (.slice aL line.length cL) ∧ w'.cell? ⟨g, op + 21, none⟩ = some (.slice aK kids.length cK)) ∧ (w'.cell? ⟨g, op, none⟩ = some (.int .i64 kind') ∧ w'.cell? ⟨g, op + 1, none⟩ = some (.int .i64 level') ∧ w'.cell? ⟨g, op + 2, none⟩ = some (.string (bs info')) ∧ w'.cell? ⟨g, op + 3, none⟩ = some (.string (bs text')) ∧ w'.cell? ⟨g, op + 4, none⟩ = some (.string (bs dest')) ∧ w'.cell? ⟨g, op + 5, none⟩ = some (.string (bs title')) ∧ w'.cell? ⟨g, op + 6, none⟩ = some (.string (bs id')) ∧ w'.cell? ⟨g, op + 7, none⟩ = some (.slice aC' cls'.length cC') ∧ w'.cell? ⟨g, op + 8, none⟩ = some (.slice aP' prs'.length cP') ∧ w'.cell? ⟨g, op + 9, none⟩ = some (.slice aL' line'.length cL') ∧ w'.cell? ⟨g, op + 10, none⟩ = some (.slice aK' kids'.length cK')) ∧ g < w'.heap.size ∧ Kept wr w') := fun w' h => ⟨⟨(h.cell (p := ⟨g, op + 11, none⟩) hzg).trans x0, (h.cell (p := ⟨g, op + 12, none⟩) hzg).trans x1, (h.cell (p := ⟨g, op + 13, none⟩) hzg).trans x2, (h.cell (p := ⟨g, op + 14, none⟩) hzg).trans x3, (h.cell (p := ⟨g, op + 15, none⟩) hzg).trans x4, (h.cell (p := ⟨g, op + 16, none⟩) hzg).trans x5, (h.cell (p := ⟨g, op + 17, none⟩) hzg).trans x6, (h.cell (p := ⟨g, op + 18, none⟩) hzg).trans x7, (h.cell (p := ⟨g, op + 19, none⟩) hzg).trans x8, (h.cell (p := ⟨g, op + 20, none⟩) hzg).trans x9, (h.cell (p := ⟨g, op + 21, none⟩) hzg).trans x10⟩, ⟨(h.cell (p := ⟨g, op, none⟩) hzg).trans y0, (h.cell (p := ⟨g, op + 1, none⟩) hzg).trans y1, (h.cell (p := ⟨g, op + 2, none⟩) hzg).trans y2, (h.cell (p := ⟨g, op + 3, none⟩) hzg).trans y3, (h.cell (p := ⟨g, op + 4, none⟩) hzg).trans y4, (h.cell (p := ⟨g, op + 5, none⟩) hzg).trans y5, (h.cell (p := ⟨g, op + 6, none⟩) hzg).trans y6, (h.cell (p := ⟨g, op + 7, none⟩) hzg).trans y7, (h.cell (p := ⟨g, op + 8, none⟩) hzg).trans y8, (h.cell (p := ⟨g, op + 9, none⟩) hzg).trans y9, (h.cell (p := ⟨g, op + 10, none⟩) hzg).trans y10⟩, Nat.lt_of_lt_of_le hzg h.size, h⟩
          have q0 : decide ((a : Int) < (j : Int)) = true := decide_eq_true (by omega)
          have q0' : decide (a < j) = true := decide_eq_true (by omega)
          have q1 : (0 : Int) ≤ (jp : Int) := by omega
          have q1' : (0 : Int) ≤ (j : Int) := by omega
          have q2 : (j : Int) < (d.size : Int) := by omega
          have q3 : (jp : Int) < (d.size : Int) := by omega
          have HCC := Lib.hid (fun w' (k : Kept wr w') => HC.out w' _ _ _ _ (HKJ.out.trans (Only.of_kept k)) gx gy ((bloK N M).sam HRX.out (Sam.kept k) (fun _ _ q => q)) ((bloK N M).sam HRY.out (Sam.kept k) (fun _ _ q => q)))
          obtain ⟨r, HR⟩ : ∃ r, Hid (cf (Blo.mk kind level info text dest title id cls prs line kids) (Blo.mk kind' level' info' text' dest' title' id' cls' prs' line' kids') = r) := ⟨_, rfl⟩
          unfold ltB at OUT2 NXT
          rw [HR.out] at HCC OUT2 NXT
          clear hC hPP hL hK hC' hPP' hL' hK' gx gy hcx hcy hlx hly hlt1 hb1 HRX0 HRY0
          have hkd : Kept wr wr.drew := kept_drewN wr 1
          by_cases hlv : r < 0
          · have hl1 : decide (r < 0) = true := decide_eq_true hlv
            go_wp2_with fail
            go_region_held3 (fun w' => (w'.cell? ⟨g, op + 11, none⟩ = some (.int .i64 kind) ∧ w'.cell? ⟨g, op + 12, none⟩ = some (.int .i64 level) ∧ w'.cell? ⟨g, op + 13, none⟩ = some (.string (bs info)) ∧ w'.cell? ⟨g, op + 14, none⟩ = some (.string (bs text)) ∧ w'.cell? ⟨g, op + 15, none⟩ = some (.string (bs dest)) ∧ w'.cell? ⟨g, op + 16, none⟩ = some (.string (bs title)) ∧ w'.cell? ⟨g, op + 17, none⟩ = some (.string (bs id)) ∧ w'.cell? ⟨g, op + 18, none⟩ = some (.slice aC cls.length cC) ∧ w'.cell? ⟨g, op + 19, none⟩ = some (.slice aP prs.length cP) ∧ w'.cell? ⟨g, op + 20, none⟩ = some (.slice aL line.length cL) ∧ w'.cell? ⟨g, op + 21, none⟩ = some (.slice aK kids.length cK)) ∧ (w'.cell? ⟨g, op, none⟩ = some (.int .i64 kind') ∧ w'.cell? ⟨g, op + 1, none⟩ = some (.int .i64 level') ∧ w'.cell? ⟨g, op + 2, none⟩ = some (.string (bs info')) ∧ w'.cell? ⟨g, op + 3, none⟩ = some (.string (bs text')) ∧ w'.cell? ⟨g, op + 4, none⟩ = some (.string (bs dest')) ∧ w'.cell? ⟨g, op + 5, none⟩ = some (.string (bs title')) ∧ w'.cell? ⟨g, op + 6, none⟩ = some (.string (bs id')) ∧ w'.cell? ⟨g, op + 7, none⟩ = some (.slice aC' cls'.length cC') ∧ w'.cell? ⟨g, op + 8, none⟩ = some (.slice aP' prs'.length cP') ∧ w'.cell? ⟨g, op + 9, none⟩ = some (.slice aL' line'.length cL') ∧ w'.cell? ⟨g, op + 10, none⟩ = some (.slice aK' kids'.length cK')) ∧ g < w'.heap.size ∧ Kept wr w')
              ((refine HS.out _ ?_; assumption))
              (first | (go_at_call 20; refine (HCC.out _ (by assumption)).mono ?_; rintro e w5 ⟨rfl, hk5⟩; have kz : Kept wr w5 := Kept.trans (by assumption) hk5; have KZ := Lib.hid kz; clear hk5))
            clear HS HCC
            have HO5 := Lib.hid (HOJ.out.kept (bloK N M) KZ.out)
            have HRX5 := Lib.hid ((bloK N M).sam HRX.out (Sam.kept KZ.out) (fun _ _ q => q))
            have HRY5 := Lib.hid ((bloK N M).sam HRY.out (Sam.kept KZ.out) (fun _ _ q => q))
            have hthj : ∀ i, i < 11 → w5.frozen? ⟨g, op + (11 + i), none⟩ = false := fun i hi => by
              have := (HO5.out.there j (by rw [Array.length_toList]; omega) i hi).2
              rw [hj11, Nat.add_assoc] at this; exact this
            have hthp : ∀ i, i < 11 → w5.frozen? ⟨g, op + i, none⟩ = false := fun i hi => by
              have := (HO5.out.there jp (by rw [Array.length_toList]; omega) i hi).2
              rw [hp11] at this; exact this
            have z0 : w5.cell? ⟨g, op + 11, none⟩ = some (.int .i64 kind) := (KZ.out.cell (p := ⟨g, op + 11, none⟩) hzg).trans x0
            have z1 : w5.cell? ⟨g, op + 12, none⟩ = some (.int .i64 level) := (KZ.out.cell (p := ⟨g, op + 12, none⟩) hzg).trans x1
            have z2 : w5.cell? ⟨g, op + 13, none⟩ = some (.string (bs info)) := (KZ.out.cell (p := ⟨g, op + 13, none⟩) hzg).trans x2
            have z3 : w5.cell? ⟨g, op + 14, none⟩ = some (.string (bs text)) := (KZ.out.cell (p := ⟨g, op + 14, none⟩) hzg).trans x3
            have z4 : w5.cell? ⟨g, op + 15, none⟩ = some (.string (bs dest)) := (KZ.out.cell (p := ⟨g, op + 15, none⟩) hzg).trans x4
            have z5 : w5.cell? ⟨g, op + 16, none⟩ = some (.string (bs title)) := (KZ.out.cell (p := ⟨g, op + 16, none⟩) hzg).trans x5
            have z6 : w5.cell? ⟨g, op + 17, none⟩ = some (.string (bs id)) := (KZ.out.cell (p := ⟨g, op + 17, none⟩) hzg).trans x6
            have z7 : w5.cell? ⟨g, op + 18, none⟩ = some (.slice aC cls.length cC) := (KZ.out.cell (p := ⟨g, op + 18, none⟩) hzg).trans x7
            have z8 : w5.cell? ⟨g, op + 19, none⟩ = some (.slice aP prs.length cP) := (KZ.out.cell (p := ⟨g, op + 19, none⟩) hzg).trans x8
            have z9 : w5.cell? ⟨g, op + 20, none⟩ = some (.slice aL line.length cL) := (KZ.out.cell (p := ⟨g, op + 20, none⟩) hzg).trans x9
            have z10 : w5.cell? ⟨g, op + 21, none⟩ = some (.slice aK kids.length cK) := (KZ.out.cell (p := ⟨g, op + 21, none⟩) hzg).trans x10
            have u0 : w5.cell? ⟨g, op, none⟩ = some (.int .i64 kind') := (KZ.out.cell (p := ⟨g, op, none⟩) hzg).trans y0
            have u1 : w5.cell? ⟨g, op + 1, none⟩ = some (.int .i64 level') := (KZ.out.cell (p := ⟨g, op + 1, none⟩) hzg).trans y1
            have u2 : w5.cell? ⟨g, op + 2, none⟩ = some (.string (bs info')) := (KZ.out.cell (p := ⟨g, op + 2, none⟩) hzg).trans y2
            have u3 : w5.cell? ⟨g, op + 3, none⟩ = some (.string (bs text')) := (KZ.out.cell (p := ⟨g, op + 3, none⟩) hzg).trans y3
            have u4 : w5.cell? ⟨g, op + 4, none⟩ = some (.string (bs dest')) := (KZ.out.cell (p := ⟨g, op + 4, none⟩) hzg).trans y4
            have u5 : w5.cell? ⟨g, op + 5, none⟩ = some (.string (bs title')) := (KZ.out.cell (p := ⟨g, op + 5, none⟩) hzg).trans y5
            have u6 : w5.cell? ⟨g, op + 6, none⟩ = some (.string (bs id')) := (KZ.out.cell (p := ⟨g, op + 6, none⟩) hzg).trans y6
            have u7 : w5.cell? ⟨g, op + 7, none⟩ = some (.slice aC' cls'.length cC') := (KZ.out.cell (p := ⟨g, op + 7, none⟩) hzg).trans y7
            have u8 : w5.cell? ⟨g, op + 8, none⟩ = some (.slice aP' prs'.length cP') := (KZ.out.cell (p := ⟨g, op + 8, none⟩) hzg).trans y8
            have u9 : w5.cell? ⟨g, op + 9, none⟩ = some (.slice aL' line'.length cL') := (KZ.out.cell (p := ⟨g, op + 9, none⟩) hzg).trans y9
            have u10 : w5.cell? ⟨g, op + 10, none⟩ = some (.slice aK' kids'.length cK') := (KZ.out.cell (p := ⟨g, op + 10, none⟩) hzg).trans y10
            have fx0 : w5.frozen? ⟨g, op + 11, none⟩ = false := hthj 0 (by omega)
            have fx1 : w5.frozen? ⟨g, op + 12, none⟩ = false := hthj 1 (by omega)
            have fx2 : w5.frozen? ⟨g, op + 13, none⟩ = false := hthj 2 (by omega)
            have fx3 : w5.frozen? ⟨g, op + 14, none⟩ = false := hthj 3 (by omega)
            have fx4 : w5.frozen? ⟨g, op + 15, none⟩ = false := hthj 4 (by omega)
            have fx5 : w5.frozen? ⟨g, op + 16, none⟩ = false := hthj 5 (by omega)
            have fx6 : w5.frozen? ⟨g, op + 17, none⟩ = false := hthj 6 (by omega)
            have fx7 : w5.frozen? ⟨g, op + 18, none⟩ = false := hthj 7 (by omega)
            have fx8 : w5.frozen? ⟨g, op + 19, none⟩ = false := hthj 8 (by omega)
            have fx9 : w5.frozen? ⟨g, op + 20, none⟩ = false := hthj 9 (by omega)
            have fx10 : w5.frozen? ⟨g, op + 21, none⟩ = false := hthj 10 (by omega)
            have fy0 : w5.frozen? ⟨g, op, none⟩ = false := hthp 0 (by omega)
            have fy1 : w5.frozen? ⟨g, op + 1, none⟩ = false := hthp 1 (by omega)
            have fy2 : w5.frozen? ⟨g, op + 2, none⟩ = false := hthp 2 (by omega)
            have fy3 : w5.frozen? ⟨g, op + 3, none⟩ = false := hthp 3 (by omega)
            have fy4 : w5.frozen? ⟨g, op + 4, none⟩ = false := hthp 4 (by omega)
            have fy5 : w5.frozen? ⟨g, op + 5, none⟩ = false := hthp 5 (by omega)
            have fy6 : w5.frozen? ⟨g, op + 6, none⟩ = false := hthp 6 (by omega)
            have fy7 : w5.frozen? ⟨g, op + 7, none⟩ = false := hthp 7 (by omega)
            have fy8 : w5.frozen? ⟨g, op + 8, none⟩ = false := hthp 8 (by omega)
            have fy9 : w5.frozen? ⟨g, op + 9, none⟩ = false := hthp 9 (by omega)
            have fy10 : w5.frozen? ⟨g, op + 10, none⟩ = false := hthp 10 (by omega)
            clear hthj hthp
            go_wp2_with fail
            go_region
            clear z0 u0 fx0 fy0 z1 u1 fx1 fy1 z2 u2 fx2 fy2 z3 u3 fx3 fy3 z4 u4 fx4 fy4 z5 u5 fx5 fy5 z6 u6 fx6 fy6 z7 u7 fx7 fy7 z8 u8 fx8 fy8 z9 u9 fx9 fy9 z10 u10 fx10 fy10
            generalize hW : World.drew _ = w8
            have hW2 : ((w5.setCells g (op + 11) [.int .i64 kind', .int .i64 level', .string (bs info'), .string (bs text'), .string (bs dest'), .string (bs title'), .string (bs id'), .slice aC' cls'.length cC', .slice aP' prs'.length cP', .slice aL' line'.length cL', .slice aK' kids'.length cK']).setCells g op [.int .i64 kind, .int .i64 level, .string (bs info), .string (bs text), .string (bs dest), .string (bs title), .string (bs id), .slice aC cls.length cC, .slice aP prs.length cP, .slice aL line.length cL, .slice aK kids.length cK]).drew = w8 := hW
            clear hW
            have ho6 := HO5.out.put (bloK N M) j (by rw [Array.length_toList]; exact hj1) [.int .i64 kind', .int .i64 level', .string (bs info'), .string (bs text'), .string (bs dest'), .string (bs title'), .string (bs id'), .slice aC' cls'.length cC', .slice aP' prs'.length cP', .slice aL' line'.length cL', .slice aK' kids'.length cK'] _ rfl HRY5.out
            rw [hj11] at ho6
            have hrx6 := (bloK N M).sam HRX5.out (Sam.only (only_cells [.int .i64 kind', .int .i64 level', .string (bs info'), .string (bs text'), .string (bs dest'), .string (bs title'), .string (bs id'), .slice aC' cls'.length cC', .slice aP' prs'.length cP', .slice aL' line'.length cL', .slice aK' kids'.length cK'] (op + 11) w5) (fun _ _ q h => q.2 h.symm)) (fun _ _ q => q)
            have ho7 := ho6.put (bloK N M) jp (by rw [List.length_set, Array.length_toList]; exact hj2) [.int .i64 kind, .int .i64 level, .string (bs info), .string (bs text), .string (bs dest), .string (bs title), .string (bs id), .slice aC cls.length cC, .slice aP prs.length cP, .slice aL line.length cL, .slice aK kids.length cK] _ rfl hrx6
            rw [hp11, ← HSW.out] at ho7
            have HO8 : Hid (OutG (BloK N M) 11 A base 37 w8 (.slice (some ⟨g, 0, none⟩) d.size cap) (swp dj j jp).toList) := by rw [← hW2]; exact ho7.kept (bloK N M) (kept_drewN _ 1)
            have HK8 : Hid (Only (fun i => i = g) w w8) := by
              rw [← hW2]
              exact (HKJ.out.trans (Only.of_kept KZ.out)).trans (((only_cells _ _ _).trans (only_cells _ _ _)).trans (Only.of_kept (kept_drewN _ 1)))
            have HN8 := Lib.hid (NXT.out hl1)
            have hsz8 : (swp dj j jp).size = d.size := by rw [size_swp]; exact hsj
            clear ho6 hrx6 ho7 hW2 HO5 HRX5 HRY5 HSW NXT OUT OUT2
            go_wp2_with fail
            go_roundw
            case rel => exact ⟨jp, swp dj j jp, rfl, by have := HJP.out; omega, by have := HJP.out; omega, hsz8, HO8.out, HK8.out, HGS.out, HN8.out⟩
            case measure => have := HJP.out; simp [intOf]; omega
          · have hl1 : decide (r < 0) = false := decide_eq_false hlv
            go_wp2_with fail
            go_region_held3 (fun w' => (w'.cell? ⟨g, op + 11, none⟩ = some (.int .i64 kind) ∧ w'.cell? ⟨g, op + 12, none⟩ = some (.int .i64 level) ∧ w'.cell? ⟨g, op + 13, none⟩ = some (.string (bs info)) ∧ w'.cell? ⟨g, op + 14, none⟩ = some (.string (bs text)) ∧ w'.cell? ⟨g, op + 15, none⟩ = some (.string (bs dest)) ∧ w'.cell? ⟨g, op + 16, none⟩ = some (.string (bs title)) ∧ w'.cell? ⟨g, op + 17, none⟩ = some (.string (bs id)) ∧ w'.cell? ⟨g, op + 18, none⟩ = some (.slice aC cls.length cC) ∧ w'.cell? ⟨g, op + 19, none⟩ = some (.slice aP prs.length cP) ∧ w'.cell? ⟨g, op + 20, none⟩ = some (.slice aL line.length cL) ∧ w'.cell? ⟨g, op + 21, none⟩ = some (.slice aK kids.length cK)) ∧ (w'.cell? ⟨g, op, none⟩ = some (.int .i64 kind') ∧ w'.cell? ⟨g, op + 1, none⟩ = some (.int .i64 level') ∧ w'.cell? ⟨g, op + 2, none⟩ = some (.string (bs info')) ∧ w'.cell? ⟨g, op + 3, none⟩ = some (.string (bs text')) ∧ w'.cell? ⟨g, op + 4, none⟩ = some (.string (bs dest')) ∧ w'.cell? ⟨g, op + 5, none⟩ = some (.string (bs title')) ∧ w'.cell? ⟨g, op + 6, none⟩ = some (.string (bs id')) ∧ w'.cell? ⟨g, op + 7, none⟩ = some (.slice aC' cls'.length cC') ∧ w'.cell? ⟨g, op + 8, none⟩ = some (.slice aP' prs'.length cP') ∧ w'.cell? ⟨g, op + 9, none⟩ = some (.slice aL' line'.length cL') ∧ w'.cell? ⟨g, op + 10, none⟩ = some (.slice aK' kids'.length cK')) ∧ g < w'.heap.size ∧ Kept wr w')
              ((refine HS.out _ ?_; assumption))
              (first | (go_at_call 20; refine (HCC.out _ (by assumption)).mono ?_; rintro e w5 ⟨rfl, hk5⟩; have kz : Kept wr w5 := Kept.trans (by assumption) hk5; have KZ := Lib.hid kz; clear hk5))
            clear HS HCC
            have HO5 := Lib.hid (HOJ.out.kept (bloK N M) KZ.out)
            have HK5 : Hid (Only (fun i => i = g) w w5) := HKJ.out.trans (Only.of_kept KZ.out)
            have HN5 := Lib.hid (OUT2.out (.inr hl1))
            clear OUT OUT2 NXT HSW
            go_wp2_with fail
            go_roundw
            case rel => exact ⟨i + 1, dj, by go_num, by omega, .inl (by omega), hsj, HO5.out, HK5.out, HGJ.out, HN5.out⟩
            case measure => simp [intOf]; omega
        · have q0 : decide ((a : Int) < (j : Int)) = false := decide_eq_false (by omega)
          have q0' : decide (a < j) = false := decide_eq_false hja
          have HN5 := Lib.hid (OUT.out (.inl (by omega)))
          clear OUT
          go_wp2_with fail
          go_quiet (fail)
          go_wp2_with fail
          go_roundw
          case rel => exact ⟨i + 1, dj, by go_num, by omega, .inl (by omega), hsj, HOJ.out.kept (bloK N M) (kept_drewN wr _), HKJ.out.trans (Only.of_kept (kept_drewN wr _)), HGJ.out, HN5.out⟩
          case measure => simp [intOf]; omega
    · have hltz : ¬ (i : Int) < (b : Int) := by omega
      have HF := Lib.hid (HFIN.out wr dk HOR.out hsk HKR.out (by rw [← HIR.out, insOuter_stop _ _ _ _ _ hlt, insOuter_stop _ _ _ _ _ (Nat.lt_irrefl b)]))
      go_wp2_with fail
      go_end0
      exact HF.out
end Go.Proofs.Ythbnahagfojfbaa
