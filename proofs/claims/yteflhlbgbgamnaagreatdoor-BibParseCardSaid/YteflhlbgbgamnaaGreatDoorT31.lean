/- What publisherref30.Parse holds in memory. No condition. -/
import Derived.Test.YteflhlbgbgamnaaGreatDoorT28
import Derived.Test.YteflhlbgbgamnaaGreatDoorT30
import Derived.Test.YteflhlbgbgamnaaGreatDoorT24
import Derived.Test.YteflhlbgbgamnaaGreatDoorT26

set_option linter.all false
namespace Go.Proofs.YteflhlbgbgamnaaGreatDoor
open Go.RowKit

/-- The keys that have been read are those of the sources. -/
def KI (st : ASt) : Prop := st.keys = st.done.map (·.key) ++ (if st.ins = true then [st.src.key] else [])
theorem addS_key (s : SrcT) (l : Bs) : (addS s l).2.key = s.key ∧ (addS s l).2.type = s.type := by
  unfold addS
  repeat' split
  all_goals exact ⟨rfl, rfl⟩
theorem KI.line {st : ASt} (h : KI st) (l : Bs) (h0 : (lineS st l).1 = 0) : KI (lineS st l).2 := by
  unfold KI at h ⊢
  cases hi : st.ins
  · rw [hi, if_neg (by simp), List.append_nil] at h
    by_cases he : beginE st.keys st.done.length l = 0
    · rw [lineS_beg st l hi he]
      simp [h]
    · rw [lineS_err st l hi he] at h0
      exact absurd h0 he
  · rw [hi, if_pos rfl] at h
    by_cases hl : l = [125]
    · subst hl
      cases ht : hasB st.src.fields [116, 105, 116, 108, 101]
      · rw [lineS_none st hi ht] at h0
        cases h0
      · rw [lineS_done st hi ht]
        simp [h]
    · rw [lineS_add st l hi hl]
      simp only [hi, if_pos]
      rw [h, (addS_key _ _).1]
theorem KI.begin {st : ASt} (h : KI st) (hi : st.ins = false) (l : Bs) : beginE st.keys st.done.length l = beginE (st.done.map (·.key)) st.done.length l := by
  unfold KI at h
  rw [hi, if_neg (by simp), List.append_nil] at h
  rw [h]
/-- The elements of a slice lie neither in block X nor in that of vD. -/
def Off (X : Nat) (vD v : Value) : Prop := ∀ g o n c, v = .slice (some ⟨g, o, none⟩) n c → 0 < n → g ≠ X ∧ vD.ownBlock ≠ some g
theorem Off.nil (X : Nat) (vD : Value) : Off X vD nilV := fun _ _ _ _ h => by cases h
theorem Off.fresh {X B : Nat} {vD v : Value} (h : Fresh B v) (hX : X < B) (hD : ∀ g, vD.ownBlock = some g → g < B) : Off X vD v := fun g o n c e hn => by
  have := h g o n c e hn
  exact ⟨by omega, fun q => by have := hD g q; omega⟩
theorem Perss.off {X : Nat} {vD v : Value} {w w' : World} {ps : List P4} (h : Perss w v ps) (o : Off X vD v) (k : Only (fun i => i = X ∨ vD.ownBlock = some i) w w') : Perss w' v ps := by
  obtain ⟨a, c, rfl, hc, h3⟩ := h
  refine ⟨a, c, rfl, hc, fun q => ?_⟩
  obtain ⟨g, o', rfl, hg, hcell⟩ := h3 q
  obtain ⟨n1, n2⟩ := o g o' _ _ rfl q
  have hs : ¬ (g = X ∨ vD.ownBlock = some g) := fun z => z.elim n1 n2
  refine ⟨g, o', rfl, Nat.lt_of_lt_of_le hg k.size, fun j x hx => ?_⟩
  rw [k.cell g _ hg hs, k.cell g _ hg hs, k.cell g _ hg hs, k.cell g _ hg hs]
  exact hcell j x hx
theorem Prs.off {X : Nat} {vD v : Value} {w w' : World} {ps : List Pr} (h : Prs w v ps) (o : Off X vD v) (k : Only (fun i => i = X ∨ vD.ownBlock = some i) w w') : Prs w' v ps := by
  obtain ⟨a, c, rfl, hc, h3⟩ := h
  refine ⟨a, c, rfl, hc, fun q => ?_⟩
  obtain ⟨g, o', rfl, hg, hcell⟩ := h3 q
  obtain ⟨n1, n2⟩ := o g o' _ _ rfl q
  have hs : ¬ (g = X ∨ vD.ownBlock = some g) := fun z => z.elim n1 n2
  refine ⟨g, o', rfl, Nat.lt_of_lt_of_le hg k.size, fun j x hx => ?_⟩
  rw [k.cell g _ hg hs, k.cell g _ hg hs]
  exact hcell j x hx
/-- A source whose lists are read in w and lie elsewhere. -/
structure XSt (X : Nat) (vD : Value) (w : World) (s : SrcT) (vA vE vF : Value) : Prop where
  a : Perss w vA s.author
  e : Perss w vE s.editor
  f : Prs w vF s.fields
  oa : Off X vD vA
  oe : Off X vD vE
  of : Off X vD vF
theorem XSt.only {X : Nat} {vD vA vE vF : Value} {w w' : World} {s : SrcT} (h : XSt X vD w s vA vE vF) (k : Only (fun i => i = X ∨ vD.ownBlock = some i) w w') : XSt X vD w' s vA vE vF := ⟨h.a.off h.oa k, h.e.off h.oe k, h.f.off h.of k, h.oa, h.oe, h.of⟩
theorem XSt.kept {X : Nat} {vD vA vE vF : Value} {w w' : World} {s : SrcT} (h : XSt X vD w s vA vE vF) (k : Kept w w') : XSt X vD w' s vA vE vF := h.only (Only.of_kept k)
theorem Perss.lt {w : World} {v : Value} {ps : List P4} (h : Perss w v ps) : ∀ g o n c, v = .slice (some ⟨g, o, none⟩) n c → 0 < n → g < w.heap.size := by
  obtain ⟨a, c, rfl, hc, h3⟩ := h
  intro g o n c' e hn
  obtain ⟨rfl, rfl, rfl⟩ := Value.slice.inj e
  obtain ⟨g', o', e', hg, _⟩ := h3 hn
  cases e'; exact hg
theorem Prs.lt {w : World} {v : Value} {ps : List Pr} (h : Prs w v ps) : ∀ g o n c, v = .slice (some ⟨g, o, none⟩) n c → 0 < n → g < w.heap.size := by
  obtain ⟨a, c, rfl, hc, h3⟩ := h
  intro g o n c' e hn
  obtain ⟨rfl, rfl, rfl⟩ := Value.slice.inj e
  obtain ⟨g', o', e', hg, _⟩ := h3 hn
  cases e'; exact hg
/-- The row of sources has moved, or not. -/
theorem Off.moved {X g : Nat} {vD vD' v : Value} {w : World} (h : Off X vD v) (hl : ∀ g o n c, v = .slice (some ⟨g, o, none⟩) n c → 0 < n → g < w.heap.size) (hD : vD'.ownBlock = some g) (hat : vD.ownBlock = some g ∨ w.heap.size ≤ g) : Off X vD' v := fun b o n c e hn => by
  obtain ⟨h1, h2⟩ := h b o n c e hn
  have h3 := hl b o n c e hn
  refine ⟨h1, fun q => ?_⟩
  rw [hD] at q
  cases q
  rcases hat with z | z
  · exact h2 z
  · omega
theorem XSt.moved {X g : Nat} {vD vD' vA vE vF : Value} {w : World} {s : SrcT} (h : XSt X vD w s vA vE vF) (hD : vD'.ownBlock = some g) (hat : vD.ownBlock = some g ∨ w.heap.size ≤ g) : XSt X vD' w s vA vE vF :=
  ⟨h.a, h.e, h.f, h.oa.moved h.a.lt hD hat, h.oe.moved h.e.lt hD hat, h.of.moved h.f.lt hD hat⟩
/-- What the reading holds: the sources that are done in vD, the open one in block X. -/
structure PInv (X B : Nat) (st : ASt) (vD : Value) (w : World) (ds : List DoneT) (kx tx : Bs) (vA vE vF : Value) : Prop where
  done : st.done = ds.map (·.s)
  own : w.ownsRow B 40 5 vD ds.length (doneC ds)
  lt : X < B
  le : B ≤ w.heap.size
  blk : Blk w X 40 #[.string (bs kx), .string (bs tx), vA, vE, vF]
  each : ∀ d ∈ ds, XSt X vD w d.s d.a d.e d.f
  form : (∃ a n c, vA = .slice a n c) ∧ (∃ a n c, vE = .slice a n c) ∧ (∃ a n c, vF = .slice a n c)
  src : st.ins = true → kx = st.src.key ∧ tx = st.src.type ∧ XSt X vD w st.src vA vE vF
theorem PInv.kept {X B : Nat} {st : ASt} {vD vA vE vF : Value} {w w' : World} {ds : List DoneT} {kx tx : Bs} (h : PInv X B st vD w ds kx tx vA vE vF) (k : Kept w w') : PInv X B st vD w' ds kx tx vA vE vF :=
  ⟨h.done, own_kept h.own k, h.lt, Nat.le_trans h.le k.size, h.blk.kept k, fun d hd => (h.each d hd).kept k, h.form, fun q => ⟨(h.src q).1, (h.src q).2.1, (h.src q).2.2.kept k⟩⟩
theorem PInv.ne {X B : Nat} {st : ASt} {vD vA vE vF : Value} {w : World} {ds : List DoneT} {kx tx : Bs} (h : PInv X B st vD w ds kx tx vA vE vF) : ∀ g, vD.ownBlock = some g → B ≤ g ∧ g < w.heap.size := fun g q => h.own.lt g q
theorem PInv.srcs {X B : Nat} {st : ASt} {vD vA vE vF : Value} {w : World} {ds : List DoneT} {kx tx : Bs} (h : PInv X B st vD w ds kx tx vA vE vF) : Srcs w vD st.done := by
  rw [h.done]
  obtain ⟨a, c, hv, hc, _, h3⟩ := own_cap h.own
  refine ⟨a, c, by simpa using hv, by simpa using hc, fun q => ?_⟩
  obtain ⟨g, ha, _, hg, hcell⟩ := h3 (by simpa using q)
  refine ⟨g, 0, ha, hg, fun j s hs => ?_⟩
  rw [List.getElem?_map, Option.map_eq_some_iff] at hs
  obtain ⟨d, hd, rfl⟩ := hs
  obtain ⟨c0, c1, c2, c3, c4⟩ := doneC_at ds j d hd
  have hr := h.each d (List.mem_of_getElem? hd)
  simp only [Nat.zero_add]
  exact ⟨d.a, d.e, d.f, hcell _ _ c0, hcell _ _ c1, hcell _ _ c2, hcell _ _ c3, hcell _ _ c4, hr.a, hr.e, hr.f⟩
/-- Five stores into block X. -/
def set5 (w : World) (X : Nat) (k t : Bs) (vA vE vF : Value) : World := ((((w.setCell ⟨X, 0, none⟩ (.string (bs k))).setCell ⟨X, 1, none⟩ (.string (bs t))).setCell ⟨X, 2, none⟩ vA).setCell ⟨X, 3, none⟩ vE).setCell ⟨X, 4, none⟩ vF
theorem set5_only (w : World) (X : Nat) (k t : Bs) (vA vE vF : Value) : Only (fun i => i = X) w (set5 w X k t vA vE vF) := only5 rfl
theorem set5_blk {w : World} {X : Nat} {c0 c1 c2 c3 c4 : Value} (k t : Bs) (vA vE vF : Value) (h : Blk w X 40 #[c0, c1, c2, c3, c4]) : Blk (set5 w X k t vA vE vF) X 40 #[.string (bs k), .string (bs t), vA, vE, vF] := by
  have := ((((h.set 0 (.string (bs k))).set 1 (.string (bs t))).set 2 vA).set 3 vE).set 4 vF
  simpa [set5] using this
theorem PInv.store {X B : Nat} {st st' : ASt} {vD vA vE vF uA uE uF : Value} {w : World} {ds : List DoneT} {kx tx k t : Bs} (h : PInv X B st vD w ds kx tx vA vE vF) (hd : st'.done = st.done) (hf : (∃ a n c, uA = .slice a n c) ∧ (∃ a n c, uE = .slice a n c) ∧ (∃ a n c, uF = .slice a n c))
    (hs : st'.ins = true → k = st'.src.key ∧ t = st'.src.type ∧ XSt X vD w st'.src uA uE uF) : PInv X B st' vD (set5 w X k t uA uE uF) ds k t uA uE uF := by
  have ho := set5_only w X k t uA uE uF
  have ho2 : Only (fun i => i = X ∨ vD.ownBlock = some i) w (set5 w X k t uA uE uF) := ho.mono (fun i _ q => .inl q)
  exact ⟨hd.trans h.done, ho.own h.own (fun g q e => by have := h.ne g q; have := h.lt; omega), h.lt, Nat.le_trans h.le ho.size, set5_blk k t uA uE uF h.blk, fun d hd => (h.each d hd).only ho2, hf, fun q => ⟨(hs q).1, (hs q).2.1, (hs q).2.2.only ho2⟩⟩
theorem XSt.push {X g : Nat} {vD vD' vA vE vF : Value} {w w' : World} {s : SrcT} (h : XSt X vD w s vA vE vF) (k : Only (fun i => i = X ∨ vD.ownBlock = some i) w w') (hD : vD'.ownBlock = some g) (hat : vD.ownBlock = some g ∨ w.heap.size ≤ g) : XSt X vD' w' s vA vE vF :=
  ⟨h.a.off h.oa k, h.e.off h.oe k, h.f.off h.of k, h.oa.moved h.a.lt hD hat, h.oe.moved h.e.lt hD hat, h.of.moved h.f.lt hD hat⟩
theorem PInv.push {X B g cap : Nat} {st : ASt} {vD vA vE vF : Value} {w wa w3 : World} {ds : List DoneT} {kx tx : Bs} (h : PInv X B st vD w ds kx tx vA vE vF) (hi : st.ins = true) (hk : Kept w wa) (hg : wa.grownBy w3 vD.ownBlock)
    (hO : w3.ownsRow B 40 5 (.slice (some ⟨g, 0, none⟩) (ds.length + 1) cap) (ds.length + 1) (doneC ds ++ [.string (bs kx), .string (bs tx), vA, vE, vF])) (hat : vD.ownBlock = some g ∨ w.heap.size ≤ g) :
    PInv X B ⟨st.done ++ [st.src], st.keys, zeroS, false⟩ (.slice (some ⟨g, 0, none⟩) (ds.length + 1) cap) w3 (ds ++ [⟨st.src, vA, vE, vF⟩]) kx tx vA vE vF := by
  obtain ⟨rfl, rfl, hx⟩ := h.src hi
  have hO2 : Only (fun i => i = X ∨ vD.ownBlock = some i) w w3 := (Only.of_kept hk).trans ((Only.grown hg).mono (fun i _ q => .inr q.symm))
  have hDe : (Value.slice (some ⟨g, 0, none⟩) (ds.length + 1) cap).ownBlock = some g := rfl
  refine ⟨?_, ?_, h.lt, Nat.le_trans h.le hO2.size, ?_, ?_, h.form, fun q => by cases q⟩
  · simp [h.done]
  · rw [doneC_snoc, List.length_append]; exact hO
  · have h1 := h.blk.kept hk
    have hne : some X ≠ vD.ownBlock := fun q => by have := h.ne X q.symm; have := h.lt; omega
    exact (hg.block X h1.lt hne).trans h1
  · intro d hd
    rcases List.mem_append.1 hd with q | q
    · exact (h.each d q).push hO2 hDe hat
    · simp at q; subst q; exact hx.push hO2 hDe hat
end Go.Proofs.YteflhlbgbgamnaaGreatDoor

/- Pairs appended in a region that draws its order. Conditions: lengths. -/
set_option linter.all false
namespace Go.Proofs.YteflhlbgbgamnaaGreatDoor
open Go.RowKit

theorem pairC_append (ps qs : List Pr) : pairC (ps ++ qs) = pairC ps ++ pairC qs := by simp [pairC]
set_option maxRecDepth 100000 in
theorem step_append_pair (w : World) {ops : Array Oper} {o : Oper} {a : Act} {K : Act → World → Prop} {Q : Exit → Act → World → Prop} {E : Prop} (hgd : o.guard = none) (s x : Operand)
    (ho : o.op = .call { callee := .builtin .append, args := #[s, x], argTypes := #[38, 38] })
    (base : Nat) (v : Value) (ps : List Pr) (hs : a.eval s = v) (hown : w.ownsRow base 62 2 v ps.length (pairC ps)) (u : Value) (qs : List Pr) (hx : a.eval x = u) (hu : Prs w u qs)
    (hb : ps.length + qs.length ≤ 1000) (hbase : base ≤ w.heap.size)
    (h : ∀ v' w', w'.ownsRow base 62 2 v' (ps ++ qs).length (pairC (ps ++ qs)) → w.grownBy w' v.ownBlock → K (a.put o.dst v') w') :
    if Region.wanted o (yielded ops a.tmps) = true then Oper.wp Tryz.prog o a w K Q else E := by
  obtain ⟨i0, hi, hz0, hz1, hz2⟩ := info_parts Tryz.infoPair
  have hw : Region.wanted o (yielded ops a.tmps) = true := by simp [Region.wanted, hgd]
  rw [if_pos hw]
  by_cases hq : 0 < qs.length
  · have hu' := hu
    obtain ⟨a', c', rfl, hc, h3⟩ := hu
    obtain ⟨g, o2, rfl, _⟩ := h3 hq
    refine wp_append_lies w s x 38 ho base 62 i0 _ 2 32 Tryz.underlying38 hi hz0 hz1 hz2 rfl (by decide) v ps.length (pairC ps) hs hown ⟨g, o2, none⟩ qs.length c' (pairC qs) hx (pairC_len qs) hu'.news (pairC_one qs) hq (by unfold maxLen; omega) (by omega) hbase w.heap.size rfl ?_
    intro g' cap w' h1 h2 _ _
    refine h _ _ ?_ h2
    rw [List.length_append, pairC_append]; exact h1
  · obtain rfl : qs = [] := List.length_eq_zero_iff.1 (by omega)
    obtain ⟨a', c', rfl, hc, _⟩ := hu
    have hown' := hown
    obtain ⟨a2, c2, rfl, hle, _, _⟩ := own_cap hown
    have hsrc : Src Tryz.prog i0.size 38 (.slice a' 0 c') 0 [] w := by
      refine ⟨.inl ⟨_, Tryz.underlying38⟩, fun w' => ?_, ?_, ?_, by simp, by simp⟩
      · simp [Builtin.lenOf]
      · cases a' <;> simp [Builtin.firstCells, loadCells, loadCellsFrom]
      · cases a' <;> simp [Builtin.firstCells, loadCells, loadCellsFrom]
    have hr := run_append_nothing (P := Tryz.prog) w 38 38 o.type 62 i0 Tryz.underlying38 hi a2 ps.length c2 hle (.slice a' 0 c') hsrc
    unfold Oper.wp execOp
    simp only [ho, resolve, invoke, builtin, Sem.run_bind, Sem.run_pure, Result.andThen_ok, List.map_toArray, List.map_cons, List.map_nil, hs, hx]
    simp only [List.length_nil]
    rw [hr]
    refine h _ _ ?_ (grown_refl _ _)
    rw [List.append_nil]; exact hown'
end Go.Proofs.YteflhlbgbgamnaaGreatDoor
