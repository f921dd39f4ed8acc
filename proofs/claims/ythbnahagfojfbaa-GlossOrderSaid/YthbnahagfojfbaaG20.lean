/- Maps in memory whose keys are texts: look-up, a key that is new, a key that is put again. No condition. -/
import Derived.Test.YthbnahagfojfbaaG01
import Derived.Test.YthbnahagfojfbaaG03
import Derived.Test.YthbnahagfojfbaaG14
import Derived.Test.YthbnahagfojfbaaG06
import Derived.Test.YthbnahagfojfbaaG07
import Derived.Test.YthbnahagfojfbaaG11

set_option linter.all false
namespace Go.Proofs.Ythbnahagfojfbaa
open Go.RowKit

def entT (e : Bs × Value) (i : Nat) : MapEntry := { key := .string (bs e.1), val := e.2, born := i }
def entsT (es : List (Bs × Value)) : Array MapEntry := (es.mapIdx fun i e => entT e i).toArray
/-- Block m is the map of the entries es. -/
def MapT (w : World) (m : Nat) (es : List (Bs × Value)) : Prop := w.heap[m]? = some (.map (entsT es) es.length)
/-- The world with other entries in block m. -/
def putT (w : World) (m : Nat) (es : List (Bs × Value)) : World := { w with heap := w.heap.setIfInBounds m (.map (entsT es) es.length) }
def getT (es : List (Bs × Value)) (k : Bs) : Option Value := (es.find? fun e => e.1 == k).map (·.2)
/-- The entries with another value at a key. -/
def setT (es : List (Bs × Value)) (k : Bs) (v : Value) : List (Bs × Value) :=
  if (es.any fun e => e.1 == k) = true then es.map fun e => if e.1 == k then (k, v) else e else es ++ [(k, v)]
theorem MapT.lt {w : World} {m : Nat} {es : List (Bs × Value)} (h : MapT w m es) : m < w.heap.size := by
  rcases Nat.lt_or_ge m w.heap.size with q | q
  · exact q
  · unfold MapT at h; rw [Array.getElem?_eq_none q] at h; cases h
theorem MapT.only {S : Nat → Prop} {w w' : World} {m : Nat} {es : List (Bs × Value)} (h : MapT w m es) (k : Only S w w') (hs : ¬ S m) : MapT w' m es := by
  unfold MapT at h ⊢; rw [k.block m (MapT.lt h) hs]; exact h
theorem MapT.kept {w w' : World} {m : Nat} {es : List (Bs × Value)} (h : MapT w m es) (k : Kept w w') : MapT w' m es := h.only (Only.of_kept (S := fun _ => False) k) (fun q => q)
theorem MapT.made (w : World) : MapT (w.alloc (.map #[] 0)) w.heap.size [] := heap_alloc_new w _
theorem putT_map (w : World) (m : Nat) (es : List (Bs × Value)) (hm : m < w.heap.size) : MapT (putT w m es) m es := by
  unfold MapT putT; simp [hm]
theorem putT_only (w : World) (m : Nat) (es : List (Bs × Value)) : Only (fun i => i = m) w (putT w m es) :=
  ⟨rfl, rfl, rfl, by simp [putT], fun k hk hs => by simp [putT, Array.getElem?_setIfInBounds, Ne.symm hs]⟩
theorem putT_size (w : World) (m : Nat) (es : List (Bs × Value)) : (putT w m es).heap.size = w.heap.size := by simp [putT]
theorem entsT_snoc (es : List (Bs × Value)) (e : Bs × Value) : entsT (es ++ [e]) = (entsT es).push (entT e es.length) := by
  unfold entsT; rw [List.mapIdx_append]; simp
theorem entsT_list (es : List (Bs × Value)) : (entsT es).toList = es.mapIdx fun i e => entT e (i + 0) := by simp [entsT]
theorem getT_cons (e : Bs × Value) (es : List (Bs × Value)) (k : Bs) : getT (e :: es) k = if e.1 = k then some e.2 else getT es k := by
  unfold getT
  rw [List.find?_cons]
  by_cases h : e.1 = k
  · rw [if_pos h]; simp [h]
  · rw [if_neg h]
    have : (e.1 == k) = false := by simpa using h
    rw [this]
theorem findT (k : Bs) : ∀ (l : List (Bs × Value)) (i j : Nat),
    (getT l k = none ∧ Instr.findNow .string (.string (bs k)) (l.mapIdx fun i' e => entT e (i' + i)) j = some none) ∨
    (∃ (n : Nat) (v : Value), getT l k = some v ∧ l[n]? = some (k, v) ∧ Instr.findNow .string (.string (bs k)) (l.mapIdx fun i' e => entT e (i' + i)) j = some (some (n + j, v)) ∧ ∀ u k', getT (l.set n (k, u)) k' = if k' = k then some u else getT l k')
  | [], _, _ => .inl ⟨rfl, rfl⟩
  | e :: l, i, j => by
    rw [List.mapIdx_cons, getT_cons]
    unfold Instr.findNow
    by_cases h : e.1 = k
    · right
      have hx : (bs k == bs e.1) = true := by rw [bs_beq, beq_iff_eq]; exact h.symm
      refine ⟨0, e.2, by rw [if_pos h], by rw [← h]; rfl, ?_, fun u k' => ?_⟩
      · simp [entT, Instr.sameNow, hx]
      · rw [List.set_cons_zero, getT_cons, getT_cons]
        by_cases q : k' = k
        · rw [if_pos q, if_pos q.symm]
        · rw [if_neg q, if_neg (fun e => q e.symm), if_neg (fun e' => q (by rw [← e', h]))]
    · have hx : (bs k == bs e.1) = false := by rw [bs_beq, beq_eq_false_iff_ne]; exact fun q => h q.symm
      have hm : (l.mapIdx fun i' x => entT x (i' + 1 + i)) = l.mapIdx fun i' x => entT x (i' + (i + 1)) := by
        congr 1; funext a b; congr 1; omega
      rw [if_neg h]
      simp only [entT, Instr.sameNow, hx] at hm ⊢
      rcases findT k l (i + 1) (j + 1) with ⟨g1, g2⟩ | ⟨n, v, g1, g2, g3, g4⟩
      · left
        simp only [entT] at g2
        rw [hm]
        exact ⟨g1, g2⟩
      · right
        simp only [entT] at g3
        rw [hm]
        refine ⟨n + 1, v, g1, by simpa using g2, by rw [g3]; congr 3; omega, fun u k' => ?_⟩
        rw [List.set_cons_succ, getT_cons, getT_cons, g4]
        by_cases q : e.1 = k'
        · rw [if_pos q, if_pos q, if_neg (fun e' => h (by rw [q, e']))]
        · rw [if_neg q, if_neg q]
theorem getT_snoc {es : List (Bs × Value)} {k : Bs} (h : getT es k = none) (v : Value) (k' : Bs) : getT (es ++ [(k, v)]) k' = if k' = k then some v else getT es k' := by
  induction es with
  | nil =>
    rw [List.nil_append, getT_cons]
    by_cases q : k' = k
    · rw [if_pos q, if_pos q.symm]
    · rw [if_neg q, if_neg (fun e => q e.symm)]
  | cons e es ih =>
    rw [getT_cons] at h
    by_cases q : e.1 = k
    · rw [if_pos q] at h; cases h
    · rw [if_neg q] at h
      rw [List.cons_append, getT_cons, getT_cons, ih h]
      by_cases q2 : e.1 = k'
      · rw [if_pos q2, if_pos q2, if_neg (fun e' => q (by rw [q2, e']))]
      · rw [if_neg q2, if_neg q2]
section
variable {P : Program} {tm ti te : TypeId}
theorem check_str (hi : P.underlying ti = some .string) (e : Bool) (s : ByteArray) (w : World) : (Instr.checkKey e 10000 ti (.string s)).run P w = .ok () w := by
  show (Instr.checkKey e (9999 + 1) ti (.string s)).run P w = .ok () w
  rw [Instr.checkKey]
  simp only [Sem.run_bind, run_underlying hi, Result.andThen]
  simp [Sem.run_pure]
theorem runT (hi : P.underlying ti = some .string) (w : World) (es : List (Bs × Value)) (k : Bs) :
    (getT es k = none ∧ (Instr.findKey ti (.string (bs k)) (entsT es).toList).run P w = .ok none w) ∨
    (∃ n v, getT es k = some v ∧ es[n]? = some (k, v) ∧ (Instr.findKey ti (.string (bs k)) (entsT es).toList).run P w = .ok (some (n, v)) w ∧ ∀ u k', getT (es.set n (k, u)) k' = if k' = k then some u else getT es k') := by
  rcases findT k es 0 0 with ⟨g1, g2⟩ | ⟨n, v, g1, g2, g3, g4⟩
  · left
    refine ⟨g1, ?_⟩
    unfold Instr.findKey
    simp only [Sem.run_bind, run_underlying hi, Result.andThen, entsT_list, g2]
    simp [Sem.run_pure]
  · right
    refine ⟨n, v, g1, g2, ?_, g4⟩
    unfold Instr.findKey
    simp only [Sem.run_bind, run_underlying hi, Result.andThen, entsT_list, g3]
    simp [Sem.run_pure]
theorem lookT_ok (hm : P.underlying tm = some (.map ti te)) (hi : P.underlying ti = some .string) (w : World) (m : Nat) (es : List (Bs × Value)) (k : Bs) (z : Value) (hz : (zeroValue te).run P w = .ok z w) (h : MapT w m es) :
    (Instr.lookup tm (.map (some m)) (.string (bs k)) true).run P w = .ok (.tuple #[(getT es k).getD z, .bool (getT es k).isSome]) w := by
  unfold MapT at h
  unfold Instr.lookup
  simp only [Sem.run_bind, run_underlying hm, Result.andThen]
  rcases runT hi w es k with ⟨g1, g2⟩ | ⟨n, v, g1, _, g3, _⟩
  · simp only [getObj, Sem.run_bind, Sem.run, h, Result.andThen, Sem.run_pure, check_str hi, g2, g1, hz]
    simp [Sem.run_pure]
  · simp only [getObj, Sem.run_bind, Sem.run, h, Result.andThen, Sem.run_pure, check_str hi, g3, g1]
    simp [Sem.run_pure]
theorem insT (hm : P.underlying tm = some (.map ti te)) (hi : P.underlying ti = some .string) (w : World) (m : Nat) (es : List (Bs × Value)) (k : Bs) (v : Value) (h : MapT w m es) (hk : getT es k = none) :
    (Instr.mapUpdate tm (.map (some m)) (.string (bs k)) v).run P w = .ok () (putT w m (es ++ [(k, v)])) := by
  unfold MapT at h
  unfold Instr.mapUpdate
  simp only [Sem.run_bind, run_underlying hm, Result.andThen]
  rcases runT hi w es k with ⟨g1, g2⟩ | ⟨n, v', g1, _, _, _⟩
  · simp only [getObj, Sem.run_bind, Sem.run, h, Result.andThen, Sem.run_pure, check_str hi, g2, setObj]
    refine congrArg (Result.ok ()) ?_
    unfold putT
    rw [entsT_snoc]
    simp [entT]
  · rw [hk] at g1; cases g1
theorem same_str (k : ByteArray) (w : World) : (Instr.keyThatStays (.string k) (.string k)).run P w = .ok (.string k) w := by
  unfold Instr.keyThatStays
  have e : Instr.sameBits 10000 (.string k) (.string k) = true := by
    show (k == k) = true
    show (k.data == k.data) = true
    exact beq_self_eq_true _
  rw [e]; rfl
/-- A key that is there is put again, with another value: at its place. -/
theorem overT (hm : P.underlying tm = some (.map ti te)) (hi : P.underlying ti = some .string) (w : World) (m : Nat) (es : List (Bs × Value)) (k : Bs) (v v0 : Value) (h : MapT w m es) (hk : getT es k = some v0) :
    ∃ es', (∀ k', getT es' k' = if k' = k then some v else getT es k') ∧ (Instr.mapUpdate tm (.map (some m)) (.string (bs k)) v).run P w = .ok () (putT w m es') := by
  unfold MapT at h
  rcases runT hi w es k with ⟨g1, _⟩ | ⟨n, v', g1, g2, g3, g4⟩
  · rw [hk] at g1; cases g1
  · rw [hk] at g1
    cases g1
    refine ⟨es.set n (k, v), g4 v, ?_⟩
    unfold Instr.mapUpdate
    simp only [Sem.run_bind, run_underlying hm, Result.andThen]
    have e1 : (entsT es)[n]? = some (entT (k, v0) n) := by unfold entsT; simp [g2]
    simp only [getObj, Sem.run_bind, Sem.run, h, Result.andThen, Sem.run_pure, check_str hi, g3, setObj, e1, Option.map_some, Option.getD_some, entT, same_str]
    refine congrArg (Result.ok ()) ?_
    unfold putT
    have e2 : ((entsT es).modify n fun e => { e with key := .string (bs k), val := v }) = entsT (es.set n (k, v)) := by
      apply Array.ext_getElem?
      intro i
      rw [Array.getElem?_modify]
      by_cases q : n = i
      · subst q
        rw [if_pos rfl, e1]
        unfold entsT
        have hn := (List.getElem?_eq_some_iff.1 g2).1
        simp [entT, hn]
      · rw [if_neg q]
        unfold entsT
        simp [List.getElem?_set, q]
    have e3 : (es.set n (k, v)).length = es.length := by simp
    rw [e3]
    first | rw [e2] | (trace_state; rfl)
end
end Go.Proofs.Ythbnahagfojfbaa

/- Steps of regions that draw their order; a cut behind such a region; rows of whole numbers; a map of one key. No condition. -/
set_option linter.all false
namespace Go.Proofs.Ythbnahagfojfbaa
open Go.RowKit

/-- What a region leaves, however it is walked. -/
theorem cut_region {P : Program} {c : Code} {Q : Exit → Act → World → Prop} {a : Act} {w : World} (a' : Act) (R : World → Prop) (h1 : (∀ w', R w' → Q .normal a' w') → c.wp P Q a w) (h2 : ∀ w', R w' → Q .normal a' w') : c.wp P Q a w := h1 h2
/-- The same, with a value that the region makes. -/
theorem cut_region1 {P : Program} {c : Code} {Q : Exit → Act → World → Prop} {a : Act} {w : World} (a' : Value → Act) (R : Value → World → Prop) (h1 : (∀ u w', R u w' → Q .normal (a' u) w') → c.wp P Q a w) (h2 : ∀ u w', R u w' → Q .normal (a' u) w') : c.wp P Q a w := h1 h2
theorem cut_region2 {P : Program} {c : Code} {Q : Exit → Act → World → Prop} {a : Act} {w : World} (a' : Value → Value → Act) (R : Value → Value → World → Prop) (h1 : (∀ u v w', R u v w' → Q .normal (a' u v) w') → c.wp P Q a w) (h2 : ∀ u v w', R u v w' → Q .normal (a' u v) w') : c.wp P Q a w := h1 h2
theorem step_go_call {P : Program} {ops : Array Oper} {o : Oper} {a : Act} {w : World} {K : Act → World → Prop} {Q : Exit → Act → World → Prop} {E : Prop} (hgd : o.guard = none) {f : FuncId} {args : Array Value} (hr : (execOp a.eval o).run P w = .ok (.enter f args) w)
    (hc : Calls P f args w fun e w' => ∃ v, e = .returned v ∧ K (a.put o.dst v) w') : if Region.wanted o (yielded ops a.tmps) = true then Oper.wp P o a w K Q else E := by
  have hw : Region.wanted o (yielded ops a.tmps) = true := by simp [Region.wanted, hgd]
  rw [if_pos hw]
  unfold Oper.wp
  rw [hr, Oper.upon_enter]
  refine hc.mono ?_
  rintro e w' ⟨v, rfl, h⟩
  exact h
/-- A whole number in one cell. -/
def IntK (_ : Nat → Prop) (_ : World) (cs : List Value) (x : Int) : Prop := cs = [.int .i64 x]
theorem intK : ReadK IntK := ⟨fun h _ _ => h, fun h u hu => by rw [h] at hu; simp at hu; subst hu; rfl⟩
section
variable {α β : Type} {R : (Nat → Prop) → World → List Value → α → Prop} {R' : (Nat → Prop) → World → List Value → β → Prop} {k k' : Nat} {A A' : Nat → Prop} {base base' : Nat} {e e' : TypeId} {w w' : World} {v v' : Value} {xs : List α} {ys : List β}
/-- Own rows of different elements lie in different blocks. -/
theorem OutG.ne (h : OutG R k A base e w v xs) (h' : OutG R' k' A' base' e' w v' ys) (hne : e ≠ e') (g : Nat) (hg : v.ownBlock = some g) : v'.ownBlock ≠ some g := by
  intro hg'
  obtain ⟨_, _, _, ho, _⟩ := h
  obtain ⟨_, _, _, ho', _⟩ := h'
  rcases ho.2 with ⟨hv, _⟩ | ⟨g1, _, cur, hv, _, hb, _⟩
  · rw [hv] at hg; cases hg
  · rcases ho'.2 with ⟨hv', _⟩ | ⟨g2, _, cur', hv', _, hb', _⟩
    · rw [hv'] at hg'; cases hg'
    · rw [hv] at hg
      rw [hv'] at hg'
      have e1 : g1 = g := by simpa [Value.ownBlock] using hg
      have e2 : g2 = g := by simpa [Value.ownBlock] using hg'
      rw [e1] at hb
      rw [e2, hb] at hb'
      cases hb'
      exact hne rfl
/-- An own row lies in no block that is known as something else. -/
theorem OutG.ne_blk (h : OutG R k A base e w v xs) {b : Nat} {t : TypeId} {cs : Array Value} (hb : Blk w b t cs) (hne : e ≠ t) : v.ownBlock ≠ some b := by
  intro hg
  obtain ⟨_, _, _, ho, _⟩ := h
  rcases ho.2 with ⟨hv, _⟩ | ⟨g1, _, cur, hv, _, hbb, _⟩
  · rw [hv] at hg; cases hg
  · rw [hv] at hg
    have e1 : g1 = b := by simpa [Value.ownBlock] using hg
    rw [e1] at hbb
    have h2 : w.heap[b]? = some (.cells cs t (0, 0)) := hb
    rw [h2] at hbb
    cases hbb
    exact hne rfl
theorem step_append_out {P : Program} (hR : ReadK R) {ops : Array Oper} {o : Oper} {a : Act} {K : Act → World → Prop} {Q : Exit → Act → World → Prop} {E : Prop} (hgd : o.guard = none) (s x : Operand) (t : TypeId)
    (ho : o.op = .call { callee := .builtin .append, args := #[s, x], argTypes := #[t, t] })
    (i : TypeInfo) (z : Value) (bytes : Nat) (ht : P.underlying t = some (.slice e)) (hi : P.info? e = some i) (hz : i.zero = some z) (hsize : i.size = k) (hby : i.bytes = bytes) (hzs : z.cells.size = k) (hsz : 0 < k)
    (hs : a.eval s = v) (hown : OutG R k A base e w v xs) (g0 : Nat) (cs : List Value) (y : α) (hx : a.eval x = .slice (some ⟨g0, 0, none⟩) 1 1) (hb : ∀ j u, cs[j]? = some u → w.cell? ⟨g0, j, none⟩ = some u) (hcl : cs.length = k)
    (hy : R (fun g => A g ∧ v.ownBlock ≠ some g) w cs y) (h63 : xs.length + 1 ≤ maxLen) (hbytes : (xs.length + 1) * bytes ≤ 140737488355328) (hbase : base ≤ w.heap.size) (H : Nat) (hH : w.heap.size = H)
    (h : ∀ g cap w', OutG R k A base e w' (.slice (some ⟨g, 0, none⟩) (xs.length + 1) cap) (xs ++ [y]) → w.grownBy w' v.ownBlock → (v.ownBlock = some g ∨ g = H) → g < w'.heap.size → K (a.put o.dst (.slice (some ⟨g, 0, none⟩) (xs.length + 1) cap)) w') :
    if Region.wanted o (yielded ops a.tmps) = true then Oper.wp P o a w K Q else E := by
  obtain ⟨css, h1, h2, ho2, h4⟩ := hown
  refine step_append_lies w hgd s x t ho base e i z k bytes ht hi hz hsize hby hzs hsz v xs.length css.flatten hs ho2 ⟨g0, 0, none⟩ 1 1 cs hx (by rw [hcl, Nat.one_mul]) (fun j u hu => by rw [addr_plus, Nat.zero_add]; exact hb j u hu) (hR.one hy) (by omega) h63 hbytes hbase H hH ?_
  intro g cap w' q1 q2 q3 q4
  refine h g cap w' ?_ q2 q3 q4
  subst hH
  exact OutG.app (ys := [y]) (css2 := [cs]) hR h1 h2 h4 rfl (fun c hc => by simp at hc; subst hc; exact hcl) (fun j c u hc hu => by
    cases j with
    | zero => cases hc; cases hu; exact hy
    | succ j => simp at hc) (by simpa using q1) q2 q3
end
section
variable {P : Program} {tm ti te : TypeId}
/-- The only key of a map gets another value. -/
theorem overV1 (hm : P.underlying tm = some (.map ti te)) (hi : P.underlying ti = some (.int .i64)) (w : World) (m : Nat) (k : Int) (v v0 : Value) (h : MapV w m [(k, v0)]) :
    (Instr.mapUpdate tm (.map (some m)) (.int .i64 k) v).run P w = .ok () (putV w m [(k, v)]) := by
  unfold MapV at h
  unfold Instr.mapUpdate
  simp only [Sem.run_bind, run_underlying hm, Result.andThen]
  rcases runV hi w [(k, v0)] k with ⟨g1, _⟩ | ⟨n, v', g1, g2, g3⟩
  · rw [getV_cons, if_pos rfl] at g1; cases g1
  · obtain rfl : n = 0 := by
      have := (List.getElem?_eq_some_iff.1 g2).1
      simpa using this
    have e1 : (entsV [(k, v0)])[0]? = some (entV (k, v0) 0) := rfl
    simp only [getObj, Sem.run_bind, Sem.run, h, Result.andThen, Sem.run_pure, check_int hi, g3, setObj, e1, Option.map_some, Option.getD_some, entV, same_int]
    refine congrArg (Result.ok ()) ?_
    unfold putV
    rfl
/-- Look-up without the second answer. -/
theorem lookT (hm : P.underlying tm = some (.map ti te)) (hi : P.underlying ti = some .string) (w : World) (m : Nat) (es : List (Bs × Value)) (k : Bs) (z : Value) (hz : (zeroValue te).run P w = .ok z w) (h : MapT w m es) :
    (Instr.lookup tm (.map (some m)) (.string (bs k)) false).run P w = .ok ((getT es k).getD z) w := by
  unfold MapT at h
  unfold Instr.lookup
  simp only [Sem.run_bind, run_underlying hm, Result.andThen]
  rcases runT hi w es k with ⟨g1, g2⟩ | ⟨n, v, g1, _, g3, _⟩
  · simp only [getObj, Sem.run_bind, Sem.run, h, Result.andThen, Sem.run_pure, check_str hi, g2, g1, hz]
    simp [Sem.run_pure]
  · simp only [getObj, Sem.run_bind, Sem.run, h, Result.andThen, Sem.run_pure, check_str hi, g3, g1]
    simp [Sem.run_pure]
/-- A key is put, new or again. -/
theorem upT (hm : P.underlying tm = some (.map ti te)) (hi : P.underlying ti = some .string) (w : World) (m : Nat) (es : List (Bs × Value)) (k : Bs) (v : Value) (h : MapT w m es) :
    ∃ es', (∀ k', getT es' k' = if k' = k then some v else getT es k') ∧ (Instr.mapUpdate tm (.map (some m)) (.string (bs k)) v).run P w = .ok () (putT w m es') := by
  cases hk : getT es k with
  | none => exact ⟨es ++ [(k, v)], getT_snoc hk v, insT hm hi w m es k v h hk⟩
  | some v0 => exact overT hm hi w m es k v v0 h hk
end
end Go.Proofs.Ythbnahagfojfbaa

/- gloss.note, where the key is new. No condition. -/
set_option linter.all false
namespace Go.Proofs.Ythbnahagfojfbaa
open Go.RowKit

theorem zero_ints (w : World) : (zeroValue 62).run Try.prog w = .ok (.slice none 0 0) w := by kernel_rfl
def NoteP (m : Nat) (es : List (Bs × Value)) (key : Bs) (inn : Int) (ok : Bool) (w : World) (e : Ending) (w' : World) : Prop :=
  e = .returned (.tuple #[]) ∧ ∃ es', MapT w' m es' ∧ (∀ k, getT es k = none → (ok = true → inn ≠ -1 → k ≠ key) → getT es' k = none) ∧ Only (fun i => i = m) w w'
set_option maxRecDepth 100000 in
set_option maxHeartbeats 3200000 in
theorem note_any (m : Nat) (es : List (Bs × Value)) (key : Bs) (inn : Int) (ok : Bool) (w : World) (hm : MapT w m es) (hk : ok = true → inn ≠ -1 → getT es key = none) :
    Calls Try.prog 56 #[.map (some m), .string (bs key), .int .i64 inn, .bool ok] w (NoteP m es key inn ok w) := by
  have HM := Lib.hid hm
  have HSAME : (ok = true → inn = -1) → NoteP m es key inn ok w (.returned (.tuple #[])) w := fun h => ⟨rfl, es, hm, fun k h1 h2 => h1, Only.of_kept (Kept.refl w)⟩
  cases ok with
  | false =>
    have HS := Lib.hid (HSAME (fun h => by cases h))
    clear hk HSAME hm
    go_enter Try.func56, Try.ntmps56
    go_wp2_with fail
    (try simp only [Exit.inBlock, Exit.then]); (try refine bodyPost_ret (results_none rfl _ _ _) rfl ?_)
    exact HS.out
  | true =>
    by_cases hi : inn = -1
    · subst hi
      have HS := Lib.hid (HSAME (fun h => rfl))
      clear hk HSAME hm
      go_enter Try.func56, Try.ntmps56
      go_wp2_with fail
      (try simp only [Exit.inBlock, Exit.then]); (try refine bodyPost_ret (results_none rfl _ _ _) rfl ?_)
      exact HS.out
    · have hkn := hk rfl hi
      have HKN := Lib.hid hkn
      have q1 : (inn == -1) = false := by simpa using hi
      have lk := lookT (P := Try.prog) Try.underlying90 Try.underlying9 w m es key _ (zero_ints w) hm
      rw [hkn] at lk
      simp only [Option.getD_none] at lk
      obtain ⟨i0, h0, hz0, hz1, hz2⟩ := info_parts Try.infoInt
      have HROW := Lib.hid (Blk.new w 3 #[.int .i64 inn])
      have HKA := Lib.hid (kept_alloc w (.cells #[.int .i64 inn] 3))
      clear hk hkn HSAME hm
      go_enter Try.func56, Try.ntmps56
      go_wp2_with (refine wpList_append_out intK rfl (.tmp 35) (.tmp 37) 62 rfl i0 _ 8 Try.underlying62 h0 hz0 hz1 hz2 rfl (by omega) (by rfl) (OutG.nil IntK 1 (fun _ => False) w.heap.size 3 _) _ [.int .i64 inn] inn (by rfl) (fun j u hu => HROW.out.cell j u (by rw [← Array.getElem?_toList]; exact hu)) rfl rfl (by unfold maxLen; simp) (by simp) HKA.out.size _ rfl ?_; intro g7 c7 w7 hout7 hgrow7 hat7 hlt7; have HON7 : Hid (Kept w w7) := HKA.out.trans' ((Only.grown hgrow7).below HKA.out.size (fun i h => by simp [Value.ownBlock] at h)); have up := insT (P := Try.prog) Try.underlying90 Try.underlying9 w7 m es key (.slice (some ⟨g7, 0, none⟩) (0 + 1) c7) (HM.out.kept HON7.out) HKN.out; clear hgrow7 hat7 hout7)
      have HMZ := Lib.hid (putT_map w7 m (es ++ [(key, .slice (some ⟨g7, 0, none⟩) (0 + 1) c7)]) (HM.out.kept HON7.out).lt)
      have HOZ := Lib.hid (putT_only w7 m (es ++ [(key, .slice (some ⟨g7, 0, none⟩) (0 + 1) c7)]))
      go_wp2_with fail
      (try simp only [Exit.inBlock, Exit.then]); (try refine bodyPost_ret (results_none rfl _ _ _) rfl ?_)
      refine ⟨rfl, _, HMZ.out, fun k h1 h2 => ?_, (Only.of_kept HON7.out).trans HOZ.out⟩
      rw [getT_snoc HKN.out, if_neg (h2 rfl hi)]; exact h1
set_option maxRecDepth 100000 in
set_option maxHeartbeats 1600000 in
theorem note_no (m : Value) (key : Bs) (inn : Int) (w : World) : Calls Try.prog 56 #[m, .string (bs key), .int .i64 inn, .bool false] w fun e w' => e = .returned (.tuple #[]) ∧ w' = w := by
  go_enter Try.func56, Try.ntmps56
  go_wp2_with fail
  (try simp only [Exit.inBlock, Exit.then]); (try refine bodyPost_ret (results_none rfl _ _ _) rfl ?_)
  exact ⟨rfl, rfl⟩
end Go.Proofs.Ythbnahagfojfbaa
