/- word, term, use, para and glossary of law27. No condition. -/
import Derived.Test.YtnbhpmleboildaaGreatDoorY16
import Derived.Test.YtnbhpmleboildaaGreatDoorY18
import Derived.Test.YtnbhpmleboildaaGreatDoorY23
import Derived.Test.YtnbhpmleboildaaGreatDoorY22
import Derived.Test.YtnbhpmleboildaaGreatDoorY13
import Derived.Test.YtnbhpmleboildaaGreatDoorY10
import Derived.Test.YtnbhpmleboildaaGreatDoorY15
import Derived.Laws.Cover4
import Derived.BigQuiet
import Derived.Deep.RegionLaw
import Derived.Deep.RegionWith
import Derived.Laws.OwnMore
import Derived.Sort.LotA
import Derived.Deep.RegionHeld3

set_option linter.all false
namespace Go.Proofs.YtnbhpmleboildaaGreatDoor
open Go.RowKit

/-- The slice v reads in w as the bytes l. -/
def Byt (w : World) (v : Value) (l : Bs) : Prop := ∃ a c, v = .slice a l.length c ∧ l.length ≤ c ∧ (0 < l.length → ∃ g o, a = some ⟨g, o, none⟩ ∧ g < w.heap.size ∧ ∀ j x, l[j]? = some x → w.cell? ⟨g, o + j, none⟩ = some (.int .u8 (x.toNat : Int)))
theorem Byt.kept {w w' : World} {v : Value} {l : Bs} (h : Byt w v l) (k : Kept w w') : Byt w' v l := by
  obtain ⟨a, c, hv, hc, h3⟩ := h
  refine ⟨a, c, hv, hc, fun q => ?_⟩
  obtain ⟨g, o, ha, hg, hcell⟩ := h3 q
  exact ⟨g, o, ha, Nat.lt_of_lt_of_le hg k.size, fun j x hx => (k.cell (p := ⟨g, o + j, none⟩) hg).trans (hcell j x hx)⟩
def bloT (nm id : Bs) (kids : List Blo) : Blo := .mk 13 0 kTerm [] [] [] id [] [(kName, nm)] [] kids
def bloP (l : List Inl) : Blo := .mk 1 0 [] [] [] [] [] [] [] l []
theorem strs_one {w : World} {P : Nat} {v : Bs} (h : Blk w P 9 #[.string (bs v)]) : Strs w (.slice (some ⟨P, 0, none⟩) 1 1) [v] :=
  ⟨_, _, rfl, Nat.le_refl _, fun _ => ⟨P, 0, rfl, h.lt, fun j q hj => by
    have h0 : j = 0 := by have := (List.getElem?_eq_some_iff.1 hj).1; simpa using this
    subst h0
    cases hj
    exact h.cell 0 _ rfl⟩⟩
theorem inB_one {S : Nat → Prop} {P : Nat} (h : S P) (n : Nat) : InB S (.slice (some ⟨P, 0, none⟩) 1 1) n := fun _ g q => by
  have : P = g := by simpa [Value.ownBlock] using q
  rw [← this]; exact h
theorem para_blo {N M : Nat} {S : Nat → Prop} {w : World} {vL : Value} {l : List Inl} (hl : Lns S N w vL l) :
    BloK N M S w [.int .i64 1, .int .i64 0, .string (bs []), .string (bs []), .string (bs []), .string (bs []), .string (bs []), .slice none 0 0, .slice none 0 0, vL, .slice none 0 0] (bloP l) :=
  ⟨_, _, _, _, rfl, ⟨Strs.none_ w, InB.nil _ _⟩, ⟨Prs.none_ w, InB.nil _ _⟩, hl, Bls.none_ _ _ _ _⟩
end Go.Proofs.YtnbhpmleboildaaGreatDoor

/- The documents of law27, in plain Lean. Conditions: lengths; names that differ. -/
set_option linter.all false
namespace Go.Proofs.YtnbhpmleboildaaGreatDoor
open Go.RowKit

/-- What a document asks so that gloss.Fill may be walked. -/
structure FitD (xs : List Blo) (st : St) (es : List (Bs × Bs)) : Prop where
  hes : (defsL false xs).map entD = es
  hst : svL (-1) false xs ⟨[], [], []⟩ = st
  hl : xs.length ≤ 1000000
  hok : okBL xs
  hot : okTL xs
  hn : (defsL false xs).length ≤ 1000000
  hnp : ∀ d ∈ defsL false xs, d.prs.length ≤ 1000000
  hg : goodD (defsL false xs)
  hil : ∀ e ∈ es, e.2.length ≤ 1000000
  hun : (inlsL xs).length ≤ 1000000
  hux : ∀ x ∈ inlsL xs, okU x
  hos : okSL (-1) false xs ⟨[], [], []⟩
  hnd : st.ns.Nodup
  hnl : st.ns.length ≤ 1000000
  hul : st.us.length ≤ 100000
  hx : ∀ x ∈ st.us, okU x ∧ x.kind = 11
def nsU (u : Option (List Bs × Bs)) : List Bs := match u with | none => [] | some p => p.1 ++ [p.2]
def tsG (g : Option (Option Bs × List (Bs × Bs))) : List (Bs × Bs) := match g with | none => [] | some p => p.2
def oG (g : Option (Option Bs × List (Bs × Bs))) : Option Bs := match g with | none => none | some p => p.1
/-- Names that are short, and differ. -/
structure FineD (u : Option (List Bs × Bs)) (g : Option (Option Bs × List (Bs × Bs))) : Prop where
  us : ∀ s ∈ nsU u, s.length ≤ 900
  un : (nsU u).Nodup
  ul : (nsU u).length ≤ 100
  ts : ∀ t ∈ tsG g, t.1 ≠ [] ∧ t.2 ≠ [] ∧ t.1.length ≤ 900 ∧ t.2.length ≤ 900
  t1 : ((tsG g).map (·.1)).Nodup
  t2 : ((tsG g).map (·.2)).Nodup
  tl : (tsG g).length ≤ 19
  o : ∀ t, oG g = some t → t.length ≤ 900
end Go.Proofs.YtnbhpmleboildaaGreatDoor

/- gloss.Fill, Terms and Uses at the documents of law27. Conditions: names that are short, and differ. -/
set_option linter.all false
namespace Go.Proofs.YtnbhpmleboildaaGreatDoor
open Go.RowKit Go.Sort

abbrev bT (t : Bs × Bs) : Blo := bloT t.1 t.2 []
end Go.Proofs.YtnbhpmleboildaaGreatDoor

/- Rows of blocks that a law of Gloss makes: a first element; an append in a region that draws its order. Slices of bytes. Conditions: lengths. -/
set_option linter.all false
namespace Go.Proofs.YtnbhpmleboildaaGreatDoor
open Go.RowKit

/-- The slice v reads in w as slices of bytes. -/
def BytK (w : World) (cs : List Value) (x : Bs) : Prop := ∃ u, cs = [u] ∧ Byt w u x
def Bytss (w : World) (v : Value) (ls : List Bs) : Prop := RowR (fun _ => True) 1 (BytK w) w v ls
theorem Bytss.kept {w w' : World} {v : Value} {ls : List Bs} (h : Bytss w v ls) (k : Kept w w') : Bytss w' v ls :=
  RowR.step h (Sam.kept k) (fun _ _ _ => trivial) (fun cs x _ hx => by obtain ⟨u, rfl, hu⟩ := hx; exact ⟨u, rfl, hu.kept k⟩)
section
variable {α : Type} {R : (Nat → Prop) → World → List Value → α → Prop} {k : Nat} {A : Nat → Prop} {base : Nat} {e : TypeId} {w w' : World} {v : Value} {xs : List α}
theorem OutG.one_ {g : Nat} {cs : List Value} {x : α} (hb : Blk w g e cs.toArray) (hl : cs.length = k) (hg : base ≤ g) (hx : R (fun i => A i ∧ g ≠ i) w cs x) : OutG R k A base e w (.slice (some ⟨g, 0, none⟩) 1 1) [x] := by
  refine ⟨[cs], rfl, fun c hc => by rw [List.mem_singleton.1 hc]; exact hl, ⟨?_, .inr ⟨g, 1, cs.toArray, rfl, hg, hb, Nat.le_refl _, by unfold maxLen; omega, ?_, ?_⟩⟩, fun j c y hc hy => ?_⟩
  · rw [List.flatten_cons, List.flatten_nil, List.append_nil, hl, List.length_singleton, Nat.one_mul]
  · rw [List.size_toArray, hl, Nat.one_mul]
  · rw [List.flatten_cons, List.flatten_nil, List.append_nil, List.length_singleton, Nat.one_mul, ← hl, List.toList_toArray, List.take_length]
  · have e1 : (fun i => A i ∧ (Value.slice (some ⟨g, 0, none⟩) [x].length 1).ownBlock ≠ some i) = (fun i => A i ∧ g ≠ i) := by
      funext i; simp [Value.ownBlock]
    cases j with
    | zero => cases hc; cases hy; show R _ w cs x; exact (by rw [← e1] at hx; exact hx)
    | succ j => simp at hc
end
end Go.Proofs.YtnbhpmleboildaaGreatDoor
