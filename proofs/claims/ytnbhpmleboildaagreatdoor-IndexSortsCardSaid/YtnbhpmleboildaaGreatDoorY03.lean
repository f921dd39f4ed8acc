/- lines.Split, Indent, Trim, Join. Conditions: lengths. -/
import Derived.Test.YtnbhpmleboildaaGreatDoorY02
import Derived.Test.YtnbhpmleboildaaGreatDoorY01

set_option linter.all false
namespace Go.Proofs.YtnbhpmleboildaaGreatDoor
open Go.RowKit

/-- The lines of a text. -/
def linesL (s : Bs) : List Bs := (runC 10 s).1 ++ (if (runC 10 s).2 = [] then [] else [(runC 10 s).2])
def LineSt (t : Bs) (k fr : Nat) (xs : List Bs) : Prop := k ≤ t.length ∧ fr ≤ k ∧ xs = (runC 10 (t.take k)).1 ∧ (t.take k).drop fr = (runC 10 (t.take k)).2
theorem LineSt.start (t : Bs) : LineSt t 0 0 [] := ⟨Nat.zero_le _, Nat.le_refl _, by simp [runC], by simp [runC]⟩
theorem LineSt.other {t : Bs} {k fr : Nat} {xs : List Bs} (h : LineSt t k fr xs) (hk : k < t.length) (hb : t[k] ≠ 10) : LineSt t (k + 1) fr xs ∧ fr ≤ k := by
  obtain ⟨h1, h2, h3, h4⟩ := h
  refine ⟨⟨by omega, by omega, ?_, ?_⟩, h2⟩
  · rw [take_next t k hk, runC_snoc]
    simp [stepC, hb, h3]
  · rw [take_next t k hk, runC_snoc, List.drop_append_of_le_length (by simp; omega), h4]
    simp [stepC, hb]
theorem LineSt.done {t : Bs} {fr : Nat} {xs : List Bs} (h : LineSt t t.length fr xs) : fr ≤ t.length ∧ linesL t = xs ++ (if fr < t.length then [t.drop fr] else []) := by
  obtain ⟨h1, h2, h3, h4⟩ := h
  rw [List.take_of_length_le (Nat.le_refl _)] at h3 h4
  refine ⟨h2, ?_⟩
  unfold linesL
  rw [h3, ← h4]
  congr 1
  by_cases q : fr < t.length
  · rw [if_pos q, if_neg]
    intro e
    have := congrArg List.length e
    simp at this; omega
  · rw [if_neg q, if_pos]
    exact List.drop_of_length_le (by omega)

end Go.Proofs.YtnbhpmleboildaaGreatDoor

/- Slices of pairs; bib.hasField, bib.Field. Conditions: lengths. -/
set_option linter.all false
namespace Go.Proofs.YtnbhpmleboildaaGreatDoor
open Go.RowKit

abbrev Pr := Bs × Bs
/-- The slice value v reads in w as the pairs ps. -/
def Prs (w : World) (v : Value) (ps : List Pr) : Prop :=
  ∃ a c, v = .slice a ps.length c ∧ ps.length ≤ c ∧ (0 < ps.length → ∃ g o, a = some ⟨g, o, none⟩ ∧ g < w.heap.size ∧ ∀ j q, ps[j]? = some q →
    w.cell? ⟨g, o + j * 2, none⟩ = some (.string (bs q.1)) ∧ w.cell? ⟨g, o + j * 2 + 1, none⟩ = some (.string (bs q.2)))
theorem Prs.kept {w w' : World} {v : Value} {ps : List Pr} (h : Prs w v ps) (k : Kept w w') : Prs w' v ps := by
  obtain ⟨a, c, hv, hc, h3⟩ := h
  refine ⟨a, c, hv, hc, fun q => ?_⟩
  obtain ⟨g, o, ha, hg, hcell⟩ := h3 q
  refine ⟨g, o, ha, Nat.lt_of_lt_of_le hg k.size, fun j x hx => ?_⟩
  obtain ⟨c0, c1⟩ := hcell j x hx
  exact ⟨(k.cell (p := ⟨g, o + j * 2, none⟩) hg).trans c0, (k.cell (p := ⟨g, o + j * 2 + 1, none⟩) hg).trans c1⟩
end Go.Proofs.YtnbhpmleboildaaGreatDoor

/- Pairs in memory, cell by cell. No condition. -/
set_option linter.all false
namespace Go.Proofs.YtnbhpmleboildaaGreatDoor
open Go.RowKit

def pairC (ps : List Pr) : List Value := ps.flatMap fun q => [.string (bs q.1), .string (bs q.2)]
theorem pairC_at (ps : List Pr) (j : Nat) (q : Pr) (h : ps[j]? = some q) : (pairC ps)[j * 2]? = some (.string (bs q.1)) ∧ (pairC ps)[j * 2 + 1]? = some (.string (bs q.2)) := by
  induction ps generalizing j with
  | nil => cases h
  | cons p ps ih =>
    have e : pairC (p :: ps) = [.string (bs p.1), .string (bs p.2)] ++ pairC ps := by simp [pairC]
    rw [e]
    cases j with
    | zero => cases h; exact ⟨rfl, rfl⟩
    | succ j =>
      have := ih j (by simpa using h)
      rw [List.getElem?_append_right (by simp; omega), List.getElem?_append_right (by simp; omega)]
      simp only [List.length_cons, List.length_nil]
      rw [show (j + 1) * 2 - (0 + 1 + 1) = j * 2 from by omega, show (j + 1) * 2 + 1 - (0 + 1 + 1) = j * 2 + 1 from by omega]
      exact this
theorem Prs.own {w : World} {base : Nat} {e : TypeId} {v : Value} {ps : List Pr} (h : w.ownsRow base e 2 v ps.length (pairC ps)) : Prs w v ps := by
  obtain ⟨a, c, hv, hc, _, h3⟩ := own_cap h
  refine ⟨a, c, hv, hc, fun q => ?_⟩
  obtain ⟨g, ha, _, hg, hcell⟩ := h3 q
  refine ⟨g, 0, ha, hg, fun j x hx => ?_⟩
  obtain ⟨c0, c1⟩ := pairC_at ps j x hx
  simp only [Nat.zero_add]
  exact ⟨hcell _ _ c0, hcell _ _ c1⟩
theorem Tryz.infoPair : (Tryz.prog.info? 47).map (fun i => (i.zero, i.size, i.bytes)) = some (some (.agg #[.string ⟨#[]⟩, .string ⟨#[]⟩]), 2, 32) := by kernel_rfl
theorem add_at (g o j : Nat) : ((⟨g, o, none⟩ : Addr).add j) = ⟨g, o + j, none⟩ := by unfold Addr.add; split <;> simp_all
theorem pairC_read (w : World) (g : Nat) (ps : List Pr) : ∀ (o : Nat), (∀ j q, ps[j]? = some q → w.cell? ⟨g, o + j * 2, none⟩ = some (.string (bs q.1)) ∧ w.cell? ⟨g, o + j * 2 + 1, none⟩ = some (.string (bs q.2))) →
    ∀ j u, (pairC ps)[j]? = some u → w.cell? ⟨g, o + j, none⟩ = some u := by
  induction ps with
  | nil => intro o _ j u h; cases h
  | cons p ps ih =>
    intro o hc j u h
    have e : pairC (p :: ps) = .string (bs p.1) :: .string (bs p.2) :: pairC ps := by simp [pairC]
    rw [e] at h
    obtain ⟨c0, c1⟩ := hc 0 p rfl
    simp only [Nat.zero_mul, Nat.add_zero] at c0 c1
    match j with
    | 0 => simp at h; subst h; exact c0
    | 1 => simp at h; subst h; exact c1
    | j + 2 =>
      have := ih (o + 2) (fun i q hq => by
        have h4 := hc (i + 1) q (by simpa using hq)
        rw [show o + (i + 1) * 2 = o + 2 + i * 2 from by omega] at h4
        exact h4) j u (by simpa using h)
      rw [show o + (j + 2) = o + 2 + j from by omega]; exact this
theorem pairC_len (ps : List Pr) : (pairC ps).length = ps.length * 2 := by
  induction ps with
  | nil => rfl
  | cons p ps ih => have e : pairC (p :: ps) = .string (bs p.1) :: .string (bs p.2) :: pairC ps := by simp [pairC]
                    rw [e]; simp only [List.length_cons, ih]; omega
theorem pairC_one (ps : List Pr) : ∀ u ∈ pairC ps, u.oneCell' = true := by
  intro u hu
  unfold pairC at hu
  rw [List.mem_flatMap] at hu
  obtain ⟨q, _, hq⟩ := hu
  simp at hq
  rcases hq with rfl | rfl <;> rfl
theorem Prs.news {w : World} {ad : Addr} {n c : Nat} {ps : List Pr} (h : Prs w (.slice (some ad) n c) ps) : ∀ j u, (pairC ps)[j]? = some u → w.cell? (ad.add j) = some u := by
  intro j u hu
  obtain ⟨a, c', hv, _, h3⟩ := h
  obtain ⟨rfl, _, _⟩ := Value.slice.inj hv
  have hp : 0 < ps.length := by
    cases ps with
    | nil => cases hu
    | cons p ps => simp
  obtain ⟨g, o, ha, _, hc⟩ := h3 hp
  cases ha
  rw [add_at]
  exact pairC_read w g ps o hc j u hu
theorem Prs.none_ (w : World) : Prs w (.slice none 0 0) [] := ⟨none, 0, rfl, Nat.le_refl _, fun q => absurd q (by simp)⟩
end Go.Proofs.YtnbhpmleboildaaGreatDoor

/- Documents in memory: inlines and blocks behind slices, and what stands of them when other blocks of memory change. No condition. -/
set_option linter.all false
namespace Go.Proofs.YtnbhpmleboildaaGreatDoor
open Go.RowKit

/-- A part of a citation. -/
structure Cit where
  key : Bs
  pre : Bs
  suf : Bs
  bare : Bool
/-- An inline. -/
inductive Inl where
  | mk (kind : Int) (text dest title id : Bs) (cls : List Bs) (prs : List Pr) (args : List Bs) (cits : List Cit) (kids : List Inl)
def Inl.kind : Inl → Int | .mk k _ _ _ _ _ _ _ _ _ => k
def Inl.text : Inl → Bs | .mk _ k _ _ _ _ _ _ _ _ => k
def Inl.dest : Inl → Bs | .mk _ _ k _ _ _ _ _ _ _ => k
def Inl.title : Inl → Bs | .mk _ _ _ k _ _ _ _ _ _ => k
def Inl.id : Inl → Bs | .mk _ _ _ _ k _ _ _ _ _ => k
def Inl.cls : Inl → List Bs | .mk _ _ _ _ _ k _ _ _ _ => k
def Inl.prs : Inl → List Pr | .mk _ _ _ _ _ _ k _ _ _ => k
def Inl.args : Inl → List Bs | .mk _ _ _ _ _ _ _ k _ _ => k
def Inl.cits : Inl → List Cit | .mk _ _ _ _ _ _ _ _ k _ => k
def Inl.kids : Inl → List Inl | .mk _ _ _ _ _ _ _ _ _ k => k
/-- A block. -/
inductive Blo where
  | mk (kind level : Int) (info text dest title id : Bs) (cls : List Bs) (prs : List Pr) (line : List Inl) (kids : List Blo)
def Blo.kind : Blo → Int | .mk k _ _ _ _ _ _ _ _ _ _ => k
def Blo.level : Blo → Int | .mk _ k _ _ _ _ _ _ _ _ _ => k
def Blo.info : Blo → Bs | .mk _ _ k _ _ _ _ _ _ _ _ => k
def Blo.text : Blo → Bs | .mk _ _ _ k _ _ _ _ _ _ _ => k
def Blo.dest : Blo → Bs | .mk _ _ _ _ k _ _ _ _ _ _ => k
def Blo.title : Blo → Bs | .mk _ _ _ _ _ k _ _ _ _ _ => k
def Blo.id : Blo → Bs | .mk _ _ _ _ _ _ k _ _ _ _ => k
def Blo.cls : Blo → List Bs | .mk _ _ _ _ _ _ _ k _ _ _ => k
def Blo.prs : Blo → List Pr | .mk _ _ _ _ _ _ _ _ k _ _ => k
def Blo.line : Blo → List Inl | .mk _ _ _ _ _ _ _ _ _ k _ => k
def Blo.kids : Blo → List Blo | .mk _ _ _ _ _ _ _ _ _ _ k => k

/-- Every block of S is as it was. -/
def Sam (S : Nat → Prop) (w w' : World) : Prop := ∀ g, g < w.heap.size → S g → w'.heap[g]? = w.heap[g]?
theorem Sam.lt {S : Nat → Prop} {w w' : World} (h : Sam S w w') {g : Nat} (hg : g < w.heap.size) (hs : S g) : g < w'.heap.size := by
  rcases Nat.lt_or_ge g w'.heap.size with q | q
  · exact q
  · have := h g hg hs
    rw [Array.getElem?_eq_none q, Array.getElem?_eq_getElem hg] at this
    cases this
theorem Sam.cell {S : Nat → Prop} {w w' : World} (h : Sam S w w') {g : Nat} (o : Nat) (hg : g < w.heap.size) (hs : S g) : w'.cell? ⟨g, o, none⟩ = w.cell? ⟨g, o, none⟩ := World.cell?_of_block (a := ⟨g, o, none⟩) (h g hg hs)
theorem Sam.only {S T : Nat → Prop} {w w' : World} (k : Only T w w') (hs : ∀ g, g < w.heap.size → S g → ¬ T g) : Sam S w w' := fun g hg h => k.block g hg (hs g hg h)
theorem Sam.kept {S : Nat → Prop} {w w' : World} (k : Kept w w') : Sam S w w' := fun g hg _ => k.block g hg
theorem Sam.below {S : Nat → Prop} {w w' : World} {B : Nat} (k : Below B w w') (hs : ∀ g, S g → g < B) : Sam S w w' := fun g _ h => k.block g (hs g h)
theorem Sam.mono {S S' : Nat → Prop} {w w' : World} (h : Sam S w w') (k : ∀ g, g < w.heap.size → S' g → S g) : Sam S' w w' := fun g hg hs => h g hg (k g hg hs)
/-- The slice v of n elements lies, if it has any, in a block of S. -/
def InB (S : Nat → Prop) (v : Value) (n : Nat) : Prop := 0 < n → ∀ g, v.ownBlock = some g → S g
theorem InB.mono {S S' : Nat → Prop} {v : Value} {n : Nat} (h : InB S v n) (k : ∀ g, v.ownBlock = some g → 0 < n → S g → S' g) : InB S' v n := fun q g hg => k g hg q (h q g hg)
theorem InB.nil (S : Nat → Prop) (v : Value) : InB S v 0 := fun q => absurd q (Nat.lt_irrefl 0)
/-- A slice whose element j is a run of k cells of which R tells the reading; its block is of S. -/
def RowR {α : Type} (S : Nat → Prop) (k : Nat) (R : List Value → α → Prop) (w : World) (v : Value) (xs : List α) : Prop :=
  ∃ a c, v = .slice a xs.length c ∧ xs.length ≤ c ∧ (0 < xs.length → ∃ g o, a = some ⟨g, o, none⟩ ∧ g < w.heap.size ∧ S g ∧
    ∀ j x, xs[j]? = some x → ∃ cs : List Value, cs.length = k ∧ (∀ i u, cs[i]? = some u → w.cell? ⟨g, o + j * k + i, none⟩ = some u) ∧ R cs x)
section
variable {α : Type} {S S' T : Nat → Prop} {k : Nat} {R R' : List Value → α → Prop} {w w' : World} {v : Value} {xs : List α}
theorem RowR.form (h : RowR S k R w v xs) : ∃ a c, v = .slice a xs.length c ∧ xs.length ≤ c := by
  obtain ⟨a, c, hv, hc, _⟩ := h; exact ⟨a, c, hv, hc⟩
theorem RowR.at_ {a : Option Addr} {n c : Nat} (h : RowR S k R w (.slice a n c) xs) (j : Nat) (x : α) (hx : xs[j]? = some x) :
    ∃ g o cs, a = some ⟨g, o, none⟩ ∧ g < w.heap.size ∧ S g ∧ cs.length = k ∧ (∀ i u, cs[i]? = some u → w.cell? ⟨g, o + j * k + i, none⟩ = some u) ∧ R cs x ∧ n = xs.length ∧ xs.length ≤ c := by
  obtain ⟨a', c', hv, hc, h3⟩ := h
  obtain ⟨rfl, rfl, rfl⟩ := Value.slice.inj hv
  obtain ⟨hk, _⟩ := List.getElem?_eq_some_iff.1 hx
  obtain ⟨g, o, ha, hg, hS, hcell⟩ := h3 (by omega)
  obtain ⟨cs, h1, h2, h3⟩ := hcell j x hx
  exact ⟨g, o, cs, ha, hg, hS, h1, h2, h3, rfl, hc⟩
theorem RowR.step (h : RowR S k R w v xs) (hb : Sam S w w') (hS : ∀ g, g < w.heap.size → S g → S' g) (hR : ∀ cs x, x ∈ xs → R cs x → R' cs x) : RowR S' k R' w' v xs := by
  obtain ⟨a, c, hv, hc, h3⟩ := h
  refine ⟨a, c, hv, hc, fun q => ?_⟩
  obtain ⟨g, o, ha, hg, hs, hcell⟩ := h3 q
  refine ⟨g, o, ha, hb.lt hg hs, hS g hg hs, fun j x hx => ?_⟩
  obtain ⟨cs, h1, h2, h4⟩ := hcell j x hx
  exact ⟨cs, h1, fun i u hu => (hb.cell _ hg hs).trans (h2 i u hu), hR cs x (List.mem_of_getElem? hx) h4⟩
theorem RowR.none_ (S : Nat → Prop) (k : Nat) (R : List Value → α → Prop) (w : World) : RowR S k R w (.slice none 0 0) [] := ⟨none, 0, rfl, Nat.le_refl _, fun q => absurd q (by simp)⟩
theorem RowR.lt (h : RowR S k R w v xs) (q : 0 < xs.length) (g : Nat) (hg : v.ownBlock = some g) : g < w.heap.size ∧ S g := by
  obtain ⟨a, c, rfl, hc, h3⟩ := h
  obtain ⟨g', o, rfl, hlt, hs, _⟩ := h3 q
  have : g' = g := by simpa [Value.ownBlock] using hg
  subst this; exact ⟨hlt, hs⟩
theorem flat_at {k : Nat} : ∀ (css : List (List Value)), (∀ cs ∈ css, cs.length = k) → ∀ (j : Nat) (cs : List Value), css[j]? = some cs → ∀ i u, cs[i]? = some u → css.flatten[j * k + i]? = some u
  | [], _, _, _, h, _, _, _ => by cases h
  | c :: css, hl, 0, cs, h, i, u, hu => by
    cases h
    rw [List.flatten_cons, Nat.zero_mul, Nat.zero_add, List.getElem?_append_left (List.getElem?_eq_some_iff.1 hu).1]; exact hu
  | c :: css, hl, j + 1, cs, h, i, u, hu => by
    have hc := hl c (by simp)
    rw [List.flatten_cons, List.getElem?_append_right (by rw [hc, Nat.succ_mul]; omega), hc, show (j + 1) * k + i - k = j * k + i by rw [Nat.succ_mul]; omega]
    exact flat_at css (fun x hx => hl x (List.mem_cons_of_mem _ hx)) j cs (by simpa using h) i u hu
theorem flat_len {k : Nat} : ∀ (css : List (List Value)), (∀ cs ∈ css, cs.length = k) → css.flatten.length = css.length * k
  | [], _ => by simp
  | c :: css, hl => by
    rw [List.flatten_cons, List.length_append, flat_len css (fun x hx => hl x (List.mem_cons_of_mem _ hx)), hl c (by simp), List.length_cons, Nat.succ_mul]; omega
theorem RowR.own {base : Nat} {e : TypeId} (css : List (List Value)) (hk : ∀ cs ∈ css, cs.length = k) (hl : css.length = xs.length) (h : w.ownsRow base e k v xs.length css.flatten) (hR : ∀ (j : Nat) (cs : List Value) (x : α), css[j]? = some cs → xs[j]? = some x → R cs x) (hS : ∀ g, v.ownBlock = some g → base ≤ g → S g) : RowR S k R w v xs := by
  obtain ⟨a, c, hv, hc, _, h3⟩ := own_cap h
  refine ⟨a, c, hv, hc, fun q => ?_⟩
  obtain ⟨g, ha, hb, hg, hcell⟩ := h3 q
  refine ⟨g, 0, ha, hg, hS g (by rw [hv, ha]; rfl) hb, fun j x hx => ?_⟩
  have hj := (List.getElem?_eq_some_iff.1 hx).1
  have hcs : css[j]? = some (css[j]'(by omega)) := List.getElem?_eq_getElem (by omega)
  refine ⟨css[j]'(by omega), hk _ (List.getElem_mem _), fun i u hu => ?_, hR j _ x hcs hx⟩
  rw [Nat.zero_add]
  exact hcell _ u (flat_at css hk j _ hcs i u hu)
end
theorem Strs.sam {S : Nat → Prop} {w w' : World} {v : Value} {xs : List Bs} (h : Strs w v xs) (hi : InB S v xs.length) (k : Sam S w w') : Strs w' v xs := by
  obtain ⟨a, c, hv, hc, h3⟩ := h
  refine ⟨a, c, hv, hc, fun q => ?_⟩
  obtain ⟨g, o, ha, hg, hcell⟩ := h3 q
  have hs : S g := hi q g (by rw [hv, ha]; rfl)
  exact ⟨g, o, ha, k.lt hg hs, fun j x hx => (k.cell _ hg hs).trans (hcell j x hx)⟩
theorem Strs.onlS {S T : Nat → Prop} {w w' : World} {v : Value} {xs : List Bs} (h : Strs w v xs) (hi : InB S v xs.length) (k : Only T w w') (hs : ∀ g, g < w.heap.size → S g → ¬ T g) : Strs w' v xs := h.sam hi (Sam.only k hs)
theorem Strs.ltB {w : World} {v : Value} {xs : List Bs} (h : Strs w v xs) : InB (fun g => g < w.heap.size) v xs.length := fun q g hg => by
  obtain ⟨a, c, hv, hc, h3⟩ := h
  obtain ⟨g', o, ha, hgg, _⟩ := h3 q
  rw [hv, ha] at hg
  have : g' = g := by simpa [Value.ownBlock] using hg
  omega
theorem Prs.sam {S : Nat → Prop} {w w' : World} {v : Value} {xs : List Pr} (h : Prs w v xs) (hi : InB S v xs.length) (k : Sam S w w') : Prs w' v xs := by
  obtain ⟨a, c, hv, hc, h3⟩ := h
  refine ⟨a, c, hv, hc, fun q => ?_⟩
  obtain ⟨g, o, ha, hg, hcell⟩ := h3 q
  have hs : S g := hi q g (by rw [hv, ha]; rfl)
  refine ⟨g, o, ha, k.lt hg hs, fun j x hx => ?_⟩
  rw [k.cell _ hg hs, k.cell _ hg hs]
  exact hcell j x hx
theorem Prs.onlS {S T : Nat → Prop} {w w' : World} {v : Value} {xs : List Pr} (h : Prs w v xs) (hi : InB S v xs.length) (k : Only T w w') (hs : ∀ g, g < w.heap.size → S g → ¬ T g) : Prs w' v xs := h.sam hi (Sam.only k hs)
theorem Prs.ltB {w : World} {v : Value} {xs : List Pr} (h : Prs w v xs) : InB (fun g => g < w.heap.size) v xs.length := fun q g hg => by
  obtain ⟨a, c, hv, hc, h3⟩ := h
  obtain ⟨g', o, ha, hgg, _⟩ := h3 q
  rw [hv, ha] at hg
  have : g' = g := by simpa [Value.ownBlock] using hg
  omega
/-- The parts of a citation. -/
def CitW (cs : List Value) (c : Cit) : Prop := cs = [.string (bs c.key), .string (bs c.pre), .string (bs c.suf), .bool c.bare]
abbrev Cits (S : Nat → Prop) : World → Value → List Cit → Prop := RowR S 4 CitW
theorem Cits.sam {S S' : Nat → Prop} {w w' : World} {v : Value} {xs : List Cit} (h : Cits S w v xs) (k : Sam S w w') (hS : ∀ g, g < w.heap.size → S g → S' g) : Cits S' w' v xs := h.step k hS (fun _ _ _ h => h)

def inlC (x : Inl) (vC vP vA vT vK : Value) : List Value := [.int .i64 x.kind, .string (bs x.text), .string (bs x.dest), .string (bs x.title), .string (bs x.id), vC, vP, vA, vT, vK]
/-- Ten cells read as an inline, its inner inlines by L. -/
def InlW (S : Nat → Prop) (L : World → Value → List Inl → Prop) (w : World) (cs : List Value) (x : Inl) : Prop :=
  ∃ vC vP vA vT vK, cs = inlC x vC vP vA vT vK ∧ (Strs w vC x.cls ∧ InB S vC x.cls.length) ∧ (Prs w vP x.prs ∧ InB S vP x.prs.length) ∧ (Strs w vA x.args ∧ InB S vA x.args.length) ∧ Cits S w vT x.cits ∧ L w vK x.kids
/-- The slice v reads in w as the inlines xs, at most n deep, all of it in blocks of S. -/
def Lns (S : Nat → Prop) : Nat → World → Value → List Inl → Prop
  | 0, w, v, xs => xs = [] ∧ RowR S 10 (fun _ _ => False) w v xs
  | n + 1, w, v, xs => RowR S 10 (InlW S (Lns S n) w) w v xs
theorem InlW.sam {S S' : Nat → Prop} {L L' : World → Value → List Inl → Prop} {w w' : World} {cs : List Value} {x : Inl} (h : InlW S L w cs x) (k : Sam S w w') (hS : ∀ g, g < w.heap.size → S g → S' g) (hL : ∀ v, L w v x.kids → L' w' v x.kids) : InlW S' L' w' cs x := by
  obtain ⟨vC, vP, vA, vT, vK, rfl, ⟨c1, c2⟩, ⟨p1, p2⟩, ⟨a1, a2⟩, t, kk⟩ := h
  exact ⟨vC, vP, vA, vT, vK, rfl, ⟨c1.sam c2 k, c2.mono fun g hg q => hS g (c1.ltB q g hg)⟩, ⟨p1.sam p2 k, p2.mono fun g hg q => hS g (p1.ltB q g hg)⟩, ⟨a1.sam a2 k, a2.mono fun g hg q => hS g (a1.ltB q g hg)⟩, t.sam k hS, hL vK kk⟩
theorem Lns.sam {S S' : Nat → Prop} : ∀ {n : Nat} {w w' : World} {v : Value} {xs : List Inl}, Lns S n w v xs → Sam S w w' → (∀ g, g < w.heap.size → S g → S' g) → Lns S' n w' v xs
  | 0, _, _, _, _, h, k, hS => ⟨h.1, RowR.step h.2 k hS (fun _ _ _ h => h)⟩
  | n + 1, _, _, _, _, h, k, hS => RowR.step (show RowR S 10 _ _ _ _ from h) k hS (fun _ _ _ h => h.sam k hS (fun _ h => Lns.sam h k hS))
theorem Lns.step {S S' T : Nat → Prop} {n : Nat} {w w' : World} {v : Value} {xs : List Inl} (h : Lns S n w v xs) (k : Only T w w') (hs : ∀ g, g < w.heap.size → S g → ¬ T g) (hS : ∀ g, g < w.heap.size → S g → S' g) : Lns S' n w' v xs := h.sam (Sam.only k hs) hS
theorem Lns.kept {S : Nat → Prop} {n : Nat} {w w' : World} {v : Value} {xs : List Inl} (h : Lns S n w v xs) (k : Kept w w') : Lns S n w' v xs := h.sam (Sam.kept k) (fun _ _ q => q)
theorem Lns.mono {S S' : Nat → Prop} {n : Nat} {w : World} {v : Value} {xs : List Inl} (h : Lns S n w v xs) (hS : ∀ g, g < w.heap.size → S g → S' g) : Lns S' n w v xs := h.sam (fun _ _ _ => rfl) hS
theorem Lns.form {S : Nat → Prop} {n : Nat} {w : World} {v : Value} {xs : List Inl} (h : Lns S n w v xs) : ∃ a c, v = .slice a xs.length c ∧ xs.length ≤ c := by
  cases n with
  | zero => exact RowR.form h.2
  | succ n => exact RowR.form (show RowR S 10 _ _ _ _ from h)
theorem Lns.none_ (S : Nat → Prop) (n : Nat) (w : World) : Lns S n w (.slice none 0 0) [] := by
  cases n with
  | zero => exact ⟨rfl, RowR.none_ _ _ _ _⟩
  | succ n => exact (RowR.none_ S 10 _ w : RowR S 10 _ w _ _)
theorem InlW.up {S : Nat → Prop} {L L' : World → Value → List Inl → Prop} {w : World} {cs : List Value} {x : Inl} (h : InlW S L w cs x) (hL : ∀ v, L w v x.kids → L' w v x.kids) : InlW S L' w cs x := h.sam (fun _ _ _ => rfl) (fun _ _ q => q) hL
theorem Lns.up {S : Nat → Prop} : ∀ {n : Nat} {w : World} {v : Value} {xs : List Inl}, Lns S n w v xs → Lns S (n + 1) w v xs
  | 0, w, v, xs, h => by
    obtain ⟨rfl, h⟩ := h
    exact RowR.step (S' := S) (R' := InlW S (Lns S 0) w) h (fun _ _ _ => rfl) (fun _ _ q => q) (fun _ _ _ h => h.elim)
  | n + 1, w, v, xs, h => RowR.step (show RowR S 10 _ _ _ _ from h) (fun _ _ _ => rfl) (fun _ _ q => q) (fun _ _ _ h => h.up (fun _ h => Lns.up h))
theorem Lns.ups {S : Nat → Prop} {n m : Nat} {w : World} {v : Value} {xs : List Inl} (h : Lns S n w v xs) (k : n ≤ m) : Lns S m w v xs := by
  induction k with
  | refl => exact h
  | step _ ih => exact ih.up

def bloC (x : Blo) (vC vP vL vK : Value) : List Value := [.int .i64 x.kind, .int .i64 x.level, .string (bs x.info), .string (bs x.text), .string (bs x.dest), .string (bs x.title), .string (bs x.id), vC, vP, vL, vK]
/-- Eleven cells read as a block, its inner blocks by L. -/
def BloW (S : Nat → Prop) (m : Nat) (L : World → Value → List Blo → Prop) (w : World) (cs : List Value) (x : Blo) : Prop :=
  ∃ vC vP vL vK, cs = bloC x vC vP vL vK ∧ (Strs w vC x.cls ∧ InB S vC x.cls.length) ∧ (Prs w vP x.prs ∧ InB S vP x.prs.length) ∧ Lns S m w vL x.line ∧ L w vK x.kids
/-- The slice v reads in w as the blocks xs, at most n deep, with lines at most m deep, all of it in blocks of S. -/
def Bls (S : Nat → Prop) (m : Nat) : Nat → World → Value → List Blo → Prop
  | 0, w, v, xs => xs = [] ∧ RowR S 11 (fun _ _ => False) w v xs
  | n + 1, w, v, xs => RowR S 11 (BloW S m (Bls S m n) w) w v xs
theorem BloW.sam {S S' : Nat → Prop} {m : Nat} {L L' : World → Value → List Blo → Prop} {w w' : World} {cs : List Value} {x : Blo} (h : BloW S m L w cs x) (k : Sam S w w') (hS : ∀ g, g < w.heap.size → S g → S' g) (hL : ∀ v, L w v x.kids → L' w' v x.kids) : BloW S' m L' w' cs x := by
  obtain ⟨vC, vP, vL, vK, rfl, ⟨c1, c2⟩, ⟨p1, p2⟩, l, kk⟩ := h
  exact ⟨vC, vP, vL, vK, rfl, ⟨c1.sam c2 k, c2.mono fun g hg q => hS g (c1.ltB q g hg)⟩, ⟨p1.sam p2 k, p2.mono fun g hg q => hS g (p1.ltB q g hg)⟩, l.sam k hS, hL vK kk⟩
theorem Bls.sam {S S' : Nat → Prop} {m : Nat} : ∀ {n : Nat} {w w' : World} {v : Value} {xs : List Blo}, Bls S m n w v xs → Sam S w w' → (∀ g, g < w.heap.size → S g → S' g) → Bls S' m n w' v xs
  | 0, _, _, _, _, h, k, hS => ⟨h.1, RowR.step h.2 k hS (fun _ _ _ h => h)⟩
  | n + 1, _, _, _, _, h, k, hS => RowR.step (show RowR S 11 _ _ _ _ from h) k hS (fun _ _ _ h => h.sam k hS (fun _ h => Bls.sam h k hS))
theorem Bls.step {S S' T : Nat → Prop} {m n : Nat} {w w' : World} {v : Value} {xs : List Blo} (h : Bls S m n w v xs) (k : Only T w w') (hs : ∀ g, g < w.heap.size → S g → ¬ T g) (hS : ∀ g, g < w.heap.size → S g → S' g) : Bls S' m n w' v xs := h.sam (Sam.only k hs) hS
theorem Bls.kept {S : Nat → Prop} {m n : Nat} {w w' : World} {v : Value} {xs : List Blo} (h : Bls S m n w v xs) (k : Kept w w') : Bls S m n w' v xs := h.sam (Sam.kept k) (fun _ _ q => q)
theorem Bls.mono {S S' : Nat → Prop} {m n : Nat} {w : World} {v : Value} {xs : List Blo} (h : Bls S m n w v xs) (hS : ∀ g, g < w.heap.size → S g → S' g) : Bls S' m n w v xs := h.sam (fun _ _ _ => rfl) hS
theorem Bls.form {S : Nat → Prop} {m n : Nat} {w : World} {v : Value} {xs : List Blo} (h : Bls S m n w v xs) : ∃ a c, v = .slice a xs.length c ∧ xs.length ≤ c := by
  cases n with
  | zero => exact RowR.form h.2
  | succ n => exact RowR.form (show RowR S 11 _ _ _ _ from h)
theorem Bls.none_ (S : Nat → Prop) (m n : Nat) (w : World) : Bls S m n w (.slice none 0 0) [] := by
  cases n with
  | zero => exact ⟨rfl, RowR.none_ _ _ _ _⟩
  | succ n => exact (RowR.none_ S 11 _ w : RowR S 11 _ w _ _)
theorem BloW.up {S : Nat → Prop} {m : Nat} {L L' : World → Value → List Blo → Prop} {w : World} {cs : List Value} {x : Blo} (h : BloW S m L w cs x) (hL : ∀ v, L w v x.kids → L' w v x.kids) : BloW S m L' w cs x := h.sam (fun _ _ _ => rfl) (fun _ _ q => q) hL
theorem Bls.up {S : Nat → Prop} {m : Nat} : ∀ {n : Nat} {w : World} {v : Value} {xs : List Blo}, Bls S m n w v xs → Bls S m (n + 1) w v xs
  | 0, w, v, xs, h => by
    obtain ⟨rfl, h⟩ := h
    exact RowR.step (S' := S) (R' := BloW S m (Bls S m 0) w) h (fun _ _ _ => rfl) (fun _ _ q => q) (fun _ _ _ h => h.elim)
  | n + 1, w, v, xs, h => RowR.step (show RowR S 11 _ _ _ _ from h) (fun _ _ _ => rfl) (fun _ _ q => q) (fun _ _ _ h => h.up (fun _ h => Bls.up h))
theorem Bls.ups {S : Nat → Prop} {m n k : Nat} {w : World} {v : Value} {xs : List Blo} (h : Bls S m n w v xs) (q : n ≤ k) : Bls S m k w v xs := by
  induction q with
  | refl => exact h
  | step _ ih => exact ih.up
end Go.Proofs.YtnbhpmleboildaaGreatDoor
