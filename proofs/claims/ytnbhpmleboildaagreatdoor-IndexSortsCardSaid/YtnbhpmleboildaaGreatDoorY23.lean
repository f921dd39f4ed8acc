/- filler.block: a filled copy of a block. Conditions: lengths; what is asked of blocks. -/
import Derived.Test.YtnbhpmleboildaaGreatDoorY22
import Derived.Test.YtnbhpmleboildaaGreatDoorY16
import Derived.Test.YtnbhpmleboildaaGreatDoorY07
import Derived.Test.YtnbhpmleboildaaGreatDoorY20
import Derived.Test.YtnbhpmleboildaaGreatDoorY03
import Derived.Deep.RegionLaw
import Derived.BigQuiet

set_option linter.all false
namespace Go.Proofs.YtnbhpmleboildaaGreatDoor
open Go.RowKit

mutual
/-- What the walk asks of blocks. -/
def okT1 : Blo → Prop
  | .mk _ _ _ _ _ _ _ _ prs line kids => okV line ∧ ((getP prs kName).getD []).length ≤ 1000 ∧ (kids.filter isTm).length ≤ 19 ∧ okTL kids
def okTL : List Blo → Prop
  | [] => True
  | x :: xs => okT1 x ∧ okTL xs
end
end Go.Proofs.YtnbhpmleboildaaGreatDoor

/- filler.blocks. Conditions: lengths; what is asked of blocks. -/
set_option linter.all false
namespace Go.Proofs.YtnbhpmleboildaaGreatDoor
open Go.RowKit

theorem BloK.kept {N n : Nat} {S : Nat → Prop} {w w' : World} {cs : List Value} {x : Blo} (h : BloK N n S w cs x) (k : Kept w w') : BloK N n S w' cs x := (bloK N n).sam h (Sam.kept k) (fun _ _ q => q)
/-- Two rows that grow side by side: what stays, and the definitions. -/
def RelB (N n B : Nat) (wr : World) (o t : Value) (zs ts : List Blo) : Prop :=
  OutG (BloK N n) 11 (fun g => B ≤ g ∧ t.ownBlock ≠ some g) B 38 wr o zs ∧ OutG (BloK N n) 11 (fun g => B ≤ g ∧ o.ownBlock ≠ some g) B 38 wr t ts ∧ (∀ g, t.ownBlock = some g → o.ownBlock ≠ some g) ∧ (t = .slice none 0 0 ∨ 0 < ts.length)
theorem RelB.kept {N n B : Nat} {wr w' : World} {o t : Value} {zs ts : List Blo} (h : RelB N n B wr o t zs ts) (k : Kept wr w') : RelB N n B w' o t zs ts := ⟨h.1.kept (bloK N n) k, h.2.1.kept (bloK N n) k, h.2.2⟩
end Go.Proofs.YtnbhpmleboildaaGreatDoor

/- The survey in plain Lean. No condition. -/
set_option linter.all false
namespace Go.Proofs.YtnbhpmleboildaaGreatDoor
open Go.RowKit

structure St where
  ns : List Bs
  us : List Inl
  ids : List Bs
def tmS (ins : Bool) (x : Blo) : Bool := ins && isTm x
/-- The definition that a block is in. -/
def withinS (inn : Int) (ins : Bool) (x : Blo) (st : St) : Int := match tmS ins x with | true => st.ns.length | false => inn
def nsS (ins : Bool) (x : Blo) (st : St) : List Bs := match tmS ins x with | true => st.ns ++ [defName x] | false => st.ns
def idsS (inn : Int) (ins : Bool) (x : Blo) (st : St) : List Bs := match (x.id == []), decide (withinS inn ins x st = -1) with | false, false => st.ids ++ [x.id] | _, _ => st.ids
def stepS (inn : Int) (ins : Bool) (x : Blo) (st : St) : St := ⟨nsS ins x st, st.us ++ (deepL x.line).filter isUse, idsS inn ins x st⟩
/-- What the walk of the survey asks of a block. -/
def condS (inn : Int) (ins : Bool) (x : Blo) (st : St) : Prop :=
  (tmS ins x = true → inn = -1 ∧ defName x ∉ st.ns) ∧ x.kind ≠ 14 ∧ (x.id ≠ [] → withinS inn ins x st ≠ -1 → x.id ∉ st.ids) ∧ (∀ y ∈ deepL x.line, quietI y) ∧ (withinS inn ins x st ≠ -1 → (deepL x.line).filter isUse = []) ∧ st.ns.length ≤ 1000000 ∧ st.us.length + (deepL x.line).length ≤ 1000000 ∧ x.prs.length ≤ 1000000
mutual
def sv1 (inn : Int) (ins : Bool) : Blo → St → St
  | .mk kind level info text dest title id cls prs line kids, st => svL (withinS inn ins (.mk kind level info text dest title id cls prs line kids) st) (isGl (.mk kind level info text dest title id cls prs line kids)) kids (stepS inn ins (.mk kind level info text dest title id cls prs line kids) st)
def svL (inn : Int) (ins : Bool) : List Blo → St → St
  | [], st => st
  | x :: xs, st => svL inn ins xs (sv1 inn ins x st)
end
mutual
def okS1 (inn : Int) (ins : Bool) : Blo → St → Prop
  | .mk kind level info text dest title id cls prs line kids, st => condS inn ins (.mk kind level info text dest title id cls prs line kids) st ∧ okSL (withinS inn ins (.mk kind level info text dest title id cls prs line kids) st) (isGl (.mk kind level info text dest title id cls prs line kids)) kids (stepS inn ins (.mk kind level info text dest title id cls prs line kids) st)
def okSL (inn : Int) (ins : Bool) : List Blo → St → Prop
  | [], _ => True
  | x :: xs, st => okS1 inn ins x st ∧ okSL inn ins xs (sv1 inn ins x st)
end
end Go.Proofs.YtnbhpmleboildaaGreatDoor

/- The reference's equality of pairs: equal lists are told equal. Conditions: lengths. -/
set_option linter.all false
namespace Go.Proofs.YtnbhpmleboildaaGreatDoor
open Go.RowKit

set_option maxRecDepth 100000 in
set_option maxHeartbeats 1600000 in
theorem pairs_eq (v v' : Value) (ps : List Pr) (w : World) (hv : Prs w v ps) (hv' : Prs w v' ps) (hN : ps.length ≤ 1100000) :
    Calls Tryz.prog 10 #[v, v'] w fun e w' => e = .returned (.bool true) ∧ Kept w w' := by
  have HV := Lib.hid hv
  have HV2 := Lib.hid hv'
  obtain ⟨a, c, rfl, hc, h3⟩ := hv
  obtain ⟨b, d, rfl, hd, h4⟩ := hv'
  clear h3 h4
  go_enter Tryz.func10, Tryz.ntmps10
  go_wp2_with fail
  go_loopw [5] (fun i wr => ∃ k : Nat, k ≤ ps.length ∧ i = .int .i64 k ∧ Kept w wr) (fun i _ => ps.length - (intOf i).toNat)
  case atStart => exact ⟨0, Nat.zero_le _, rfl, Kept.refl _⟩
  case round =>
    obtain ⟨k, hk, rfl, hkr⟩ := hrel
    have HR := Lib.hid hkr
    by_cases hlt : k < ps.length
    · obtain ⟨q, hx⟩ : ∃ x, ps[k]? = some x := ⟨_, List.getElem?_eq_getElem hlt⟩
      obtain ⟨a', c', hva, _, h3⟩ := HV.out.kept hkr
      obtain ⟨rfl, hdead, rfl⟩ := Value.slice.inj hva
      clear hdead
      obtain ⟨b', d', hvb, _, h4⟩ := HV2.out.kept hkr
      obtain ⟨rfl, hdead, rfl⟩ := Value.slice.inj hvb
      clear hdead
      obtain ⟨g, o, rfl, hg, hcc⟩ := h3 (by omega)
      obtain ⟨g2, o2, rfl, hg2, hcc2⟩ := h4 (by omega)
      obtain ⟨c0, c1⟩ := hcc k q hx
      obtain ⟨d0, d1⟩ := hcc2 k q hx
      clear hkr hcc hcc2 h3 h4 hva hvb hx
      obtain ⟨q1, q2⟩ := q
      simp only at c0 c1 d0 d1
      go_wp2_with fail
      go_region
      all_goals
        go_wp2_with fail
        go_roundw
        case rel => exact ⟨k + 1, by omega, by go_num, HR.out.trans (kept_drewN _ _)⟩
        case measure => simp [intOf]; omega
    · clear hkr
      go_wp2_with fail
      go_ret
      exact ⟨rfl, HR.out⟩
end Go.Proofs.YtnbhpmleboildaaGreatDoor
