/- Worlds that differ at some blocks alone; rows of persons and of pairs; bib.addPerson. Conditions: lengths. -/
import Derived.Test.YteflhlbgbgamnaaGreatDoorT09
import Derived.Test.YteflhlbgbgamnaaGreatDoorT18
import Derived.Deep.AppendLies
import Derived.Deep.RegionHeld3
import Derived.Lib.SliceRun

set_option linter.all false
namespace Go.Proofs.YteflhlbgbgamnaaGreatDoor
open Go.RowKit

/-- A block after a store into it. -/
theorem set_blk {w : World} {g o : Nat} {t : TypeId} {cs : Array Value} (h : Blk w g t cs) (v : Value) : Blk (w.setCell ⟨g, o, none⟩ v) g t (cs.setIfInBounds o v) := by
  unfold Blk at h ⊢
  simp [World.setCell, Array.getElem?_modify, h]

def persC (ps : List P4) : List Value := ps.flatMap fun q => [.string (bs q.1), .string (bs q.2.1), .string (bs q.2.2.1), .string (bs q.2.2.2)]
def pairC (ps : List Pr) : List Value := ps.flatMap fun q => [.string (bs q.1), .string (bs q.2)]
theorem persC_snoc (ps : List P4) (q : P4) : persC (ps ++ [q]) = persC ps ++ [.string (bs q.1), .string (bs q.2.1), .string (bs q.2.2.1), .string (bs q.2.2.2)] := by simp [persC]
theorem pairC_snoc (ps : List Pr) (q : Pr) : pairC (ps ++ [q]) = pairC ps ++ [.string (bs q.1), .string (bs q.2)] := by simp [pairC]
theorem persC_at (ps : List P4) (j : Nat) (q : P4) (h : ps[j]? = some q) : (persC ps)[j * 4]? = some (.string (bs q.1)) ∧ (persC ps)[j * 4 + 1]? = some (.string (bs q.2.1)) ∧ (persC ps)[j * 4 + 2]? = some (.string (bs q.2.2.1)) ∧ (persC ps)[j * 4 + 3]? = some (.string (bs q.2.2.2)) := by
  induction ps generalizing j with
  | nil => cases h
  | cons p ps ih =>
    have e : persC (p :: ps) = [.string (bs p.1), .string (bs p.2.1), .string (bs p.2.2.1), .string (bs p.2.2.2)] ++ persC ps := by simp [persC]
    rw [e]
    cases j with
    | zero => cases h; exact ⟨rfl, rfl, rfl, rfl⟩
    | succ j =>
      have := ih j (by simpa using h)
      rw [List.getElem?_append_right (by simp; omega), List.getElem?_append_right (by simp; omega), List.getElem?_append_right (by simp; omega), List.getElem?_append_right (by simp; omega)]
      simp only [List.length_cons, List.length_nil]
      rw [show (j + 1) * 4 - (0 + 1 + 1 + 1 + 1) = j * 4 from by omega, show (j + 1) * 4 + 1 - (0 + 1 + 1 + 1 + 1) = j * 4 + 1 from by omega, show (j + 1) * 4 + 2 - (0 + 1 + 1 + 1 + 1) = j * 4 + 2 from by omega, show (j + 1) * 4 + 3 - (0 + 1 + 1 + 1 + 1) = j * 4 + 3 from by omega]
      exact this
theorem pairC_at (ps : List Pr) (j : Nat) (q : Pr) (h : ps[j]? = some q) : (pairC ps)[j * 2]? = some (.string (bs q.1)) ∧ (pairC ps)[j * 2 + 1]? = some (.string (bs q.2)) := by
  induction ps generalizing j with
  | nil => cases h
  | cons p ps ih =>
    have e : pairC (p :: ps) = [.string (bs p.1), .string (bs p.2)] ++ pairC ps := by simp [pairC]
    rw [e]
    cases j with
    | zero => cases h; exact ⟨rfl, rfl⟩
    | succ j =>
      have := ih j (by simpa using h)
      rw [List.getElem?_append_right (by simp; omega), List.getElem?_append_right (by simp; omega)]
      simp only [List.length_cons, List.length_nil]
      rw [show (j + 1) * 2 - (0 + 1 + 1) = j * 2 from by omega, show (j + 1) * 2 + 1 - (0 + 1 + 1) = j * 2 + 1 from by omega]
      exact this
theorem Perss.own {w : World} {base : Nat} {e : TypeId} {v : Value} {ps : List P4} (h : w.ownsRow base e 4 v ps.length (persC ps)) : Perss w v ps := by
  obtain ⟨a, c, hv, hc, _, h3⟩ := own_cap h
  refine ⟨a, c, hv, hc, fun q => ?_⟩
  obtain ⟨g, ha, _, hg, hcell⟩ := h3 q
  refine ⟨g, 0, ha, hg, fun j x hx => ?_⟩
  obtain ⟨c0, c1, c2, c3⟩ := persC_at ps j x hx
  simp only [Nat.zero_add]
  exact ⟨hcell _ _ c0, hcell _ _ c1, hcell _ _ c2, hcell _ _ c3⟩
theorem Prs.own {w : World} {base : Nat} {e : TypeId} {v : Value} {ps : List Pr} (h : w.ownsRow base e 2 v ps.length (pairC ps)) : Prs w v ps := by
  obtain ⟨a, c, hv, hc, _, h3⟩ := own_cap h
  refine ⟨a, c, hv, hc, fun q => ?_⟩
  obtain ⟨g, ha, _, hg, hcell⟩ := h3 q
  refine ⟨g, 0, ha, hg, fun j x hx => ?_⟩
  obtain ⟨c0, c1⟩ := pairC_at ps j x hx
  simp only [Nat.zero_add]
  exact ⟨hcell _ _ c0, hcell _ _ c1⟩
theorem Tryz.infoPers : (Tryz.prog.info? 32).map (fun i => (i.zero, i.size, i.bytes)) = some (some (.agg #[.string ⟨#[]⟩, .string ⟨#[]⟩, .string ⟨#[]⟩, .string ⟨#[]⟩]), 4, 64) := by kernel_rfl
theorem Tryz.infoPair : (Tryz.prog.info? 62).map (fun i => (i.zero, i.size, i.bytes)) = some (some (.agg #[.string ⟨#[]⟩, .string ⟨#[]⟩]), 2, 32) := by kernel_rfl
/-- What a call that appends to the row in cell o of block r leaves. -/
structure Pushed (r o T : Nat) (e : TypeId) (size n : Nat) (xs : List Value) (v : Value) (w w' : World) : Prop where
  row : ∃ g cap, w'.ownsRow T e size (.slice (some ⟨g, 0, none⟩) n cap) n xs ∧ (v.ownBlock = some g ∨ w.heap.size ≤ g) ∧ ∀ t cs, Blk w r t cs → Blk w' r t (cs.setIfInBounds o (.slice (some ⟨g, 0, none⟩) n cap))
  only : Only (fun i => some i = v.ownBlock ∨ i = r) w w'
end Go.Proofs.YteflhlbgbgamnaaGreatDoor

/- slices.Clone at lists of persons and of pairs. Conditions: lengths. -/
set_option linter.all false
namespace Go.Proofs.YteflhlbgbgamnaaGreatDoor
open Go.RowKit

theorem add_at (g o j : Nat) : ((⟨g, o, none⟩ : Addr).add j) = ⟨g, o + j, none⟩ := by unfold Addr.add; split <;> simp_all
theorem persC_read (w : World) (g : Nat) (ps : List P4) : ∀ (o : Nat), (∀ j q, ps[j]? = some q → w.cell? ⟨g, o + j * 4, none⟩ = some (.string (bs q.1)) ∧ w.cell? ⟨g, o + j * 4 + 1, none⟩ = some (.string (bs q.2.1)) ∧ w.cell? ⟨g, o + j * 4 + 2, none⟩ = some (.string (bs q.2.2.1)) ∧ w.cell? ⟨g, o + j * 4 + 3, none⟩ = some (.string (bs q.2.2.2))) →
    ∀ j u, (persC ps)[j]? = some u → w.cell? ⟨g, o + j, none⟩ = some u := by
  induction ps with
  | nil => intro o _ j u h; cases h
  | cons p ps ih =>
    intro o hc j u h
    have e : persC (p :: ps) = .string (bs p.1) :: .string (bs p.2.1) :: .string (bs p.2.2.1) :: .string (bs p.2.2.2) :: persC ps := by simp [persC]
    rw [e] at h
    obtain ⟨c0, c1, c2, c3⟩ := hc 0 p rfl
    simp only [Nat.zero_mul, Nat.add_zero] at c0 c1 c2 c3
    match j with
    | 0 => simp at h; subst h; exact c0
    | 1 => simp at h; subst h; exact c1
    | 2 => simp at h; subst h; exact c2
    | 3 => simp at h; subst h; exact c3
    | j + 4 =>
      have := ih (o + 4) (fun i q hq => by
        have h4 := hc (i + 1) q (by simpa using hq)
        rw [show o + (i + 1) * 4 = o + 4 + i * 4 from by omega] at h4
        exact h4) j u (by simpa using h)
      rw [show o + (j + 4) = o + 4 + j from by omega]; exact this
theorem pairC_read (w : World) (g : Nat) (ps : List Pr) : ∀ (o : Nat), (∀ j q, ps[j]? = some q → w.cell? ⟨g, o + j * 2, none⟩ = some (.string (bs q.1)) ∧ w.cell? ⟨g, o + j * 2 + 1, none⟩ = some (.string (bs q.2))) →
    ∀ j u, (pairC ps)[j]? = some u → w.cell? ⟨g, o + j, none⟩ = some u := by
  induction ps with
  | nil => intro o _ j u h; cases h
  | cons p ps ih =>
    intro o hc j u h
    have e : pairC (p :: ps) = .string (bs p.1) :: .string (bs p.2) :: pairC ps := by simp [pairC]
    rw [e] at h
    obtain ⟨c0, c1⟩ := hc 0 p rfl
    simp only [Nat.zero_mul, Nat.add_zero] at c0 c1
    match j with
    | 0 => simp at h; subst h; exact c0
    | 1 => simp at h; subst h; exact c1
    | j + 2 =>
      have := ih (o + 2) (fun i q hq => by
        have h4 := hc (i + 1) q (by simpa using hq)
        rw [show o + (i + 1) * 2 = o + 2 + i * 2 from by omega] at h4
        exact h4) j u (by simpa using h)
      rw [show o + (j + 2) = o + 2 + j from by omega]; exact this
theorem persC_len (ps : List P4) : (persC ps).length = ps.length * 4 := by
  induction ps with
  | nil => rfl
  | cons p ps ih => have e : persC (p :: ps) = .string (bs p.1) :: .string (bs p.2.1) :: .string (bs p.2.2.1) :: .string (bs p.2.2.2) :: persC ps := by simp [persC]
                    rw [e]; simp only [List.length_cons, ih]; omega
theorem pairC_len (ps : List Pr) : (pairC ps).length = ps.length * 2 := by
  induction ps with
  | nil => rfl
  | cons p ps ih => have e : pairC (p :: ps) = .string (bs p.1) :: .string (bs p.2) :: pairC ps := by simp [pairC]
                    rw [e]; simp only [List.length_cons, ih]; omega
theorem persC_one (ps : List P4) : ∀ u ∈ persC ps, u.oneCell' = true := by
  intro u hu
  unfold persC at hu
  rw [List.mem_flatMap] at hu
  obtain ⟨q, _, hq⟩ := hu
  simp at hq
  rcases hq with rfl | rfl | rfl | rfl <;> rfl
theorem pairC_one (ps : List Pr) : ∀ u ∈ pairC ps, u.oneCell' = true := by
  intro u hu
  unfold pairC at hu
  rw [List.mem_flatMap] at hu
  obtain ⟨q, _, hq⟩ := hu
  simp at hq
  rcases hq with rfl | rfl <;> rfl
/-- The cells of a list of persons, by the address of the slice. -/
theorem Perss.news {w : World} {ad : Addr} {n c : Nat} {ps : List P4} (h : Perss w (.slice (some ad) n c) ps) : ∀ j u, (persC ps)[j]? = some u → w.cell? (ad.add j) = some u := by
  intro j u hu
  obtain ⟨a, c', hv, _, h3⟩ := h
  obtain ⟨rfl, _, _⟩ := Value.slice.inj hv
  have hp : 0 < ps.length := by
    cases ps with
    | nil => cases hu
    | cons p ps => simp
  obtain ⟨g, o, ha, _, hc⟩ := h3 hp
  cases ha
  rw [add_at]
  exact persC_read w g ps o hc j u hu
theorem Prs.news {w : World} {ad : Addr} {n c : Nat} {ps : List Pr} (h : Prs w (.slice (some ad) n c) ps) : ∀ j u, (pairC ps)[j]? = some u → w.cell? (ad.add j) = some u := by
  intro j u hu
  obtain ⟨a, c', hv, _, h3⟩ := h
  obtain ⟨rfl, _, _⟩ := Value.slice.inj hv
  have hp : 0 < ps.length := by
    cases ps with
    | nil => cases hu
    | cons p ps => simp
  obtain ⟨g, o, ha, _, hc⟩ := h3 hp
  cases ha
  rw [add_at]
  exact pairC_read w g ps o hc j u hu
theorem Perss.nil_ {w : World} {n c : Nat} {ps : List P4} (h : Perss w (.slice none n c) ps) : ps = [] := by
  obtain ⟨a, c', hv, _, h3⟩ := h
  obtain ⟨rfl, _, _⟩ := Value.slice.inj hv
  cases ps with
  | nil => rfl
  | cons p ps =>
    obtain ⟨g, o, ha, _⟩ := h3 (by simp)
    cases ha
theorem Prs.nil_ {w : World} {n c : Nat} {ps : List Pr} (h : Prs w (.slice none n c) ps) : ps = [] := by
  obtain ⟨a, c', hv, _, h3⟩ := h
  obtain ⟨rfl, _, _⟩ := Value.slice.inj hv
  cases ps with
  | nil => rfl
  | cons p ps =>
    obtain ⟨g, o, ha, _⟩ := h3 (by simp)
    cases ha
theorem Perss.none_ (w : World) : Perss w (.slice none 0 0) [] := ⟨none, 0, rfl, Nat.le_refl _, fun q => absurd q (by simp)⟩
theorem Prs.none_ (w : World) : Prs w (.slice none 0 0) [] := ⟨none, 0, rfl, Nat.le_refl _, fun q => absurd q (by simp)⟩
/-- A slice with cells lies in a block from B on. -/
def Fresh (B : Nat) (v : Value) : Prop := ∀ g o n c, v = .slice (some ⟨g, o, none⟩) n c → 0 < n → B ≤ g
theorem Fresh.none_ (B : Nat) (n c : Nat) : Fresh B (.slice none n c) := fun _ _ _ _ h => by cases h
theorem Fresh.own {w : World} {base : Nat} {e : TypeId} {size : Nat} {v : Value} {n : Nat} {xs : List Value} (h : w.ownsRow base e size v n xs) : Fresh base v := by
  obtain ⟨a, c, rfl, _, _, h3⟩ := own_cap h
  intro g o n' c' he hn
  obtain ⟨rfl, rfl, rfl⟩ := Value.slice.inj he
  obtain ⟨g', e', hb, _⟩ := h3 hn
  cases e'; exact hb
theorem Perss.away {S : Nat → Prop} {w w' : World} {B : Nat} {v : Value} {ps : List P4} (h : Perss w v ps) (hf : Fresh B v) (k : Only S w w') (hS : ∀ i, S i → i < B) : Perss w' v ps := by
  obtain ⟨a, c, rfl, hc, h3⟩ := h
  refine ⟨a, c, rfl, hc, fun q => ?_⟩
  obtain ⟨g, o, rfl, hg, hcell⟩ := h3 q
  have hb := hf g o _ _ rfl q
  have hn : ¬ S g := fun h => by have := hS g h; omega
  refine ⟨g, o, rfl, Nat.lt_of_lt_of_le hg k.size, fun j x hx => ?_⟩
  rw [k.cell g _ hg hn, k.cell g _ hg hn, k.cell g _ hg hn, k.cell g _ hg hn]
  exact hcell j x hx
theorem Prs.away {S : Nat → Prop} {w w' : World} {B : Nat} {v : Value} {ps : List Pr} (h : Prs w v ps) (hf : Fresh B v) (k : Only S w w') (hS : ∀ i, S i → i < B) : Prs w' v ps := by
  obtain ⟨a, c, rfl, hc, h3⟩ := h
  refine ⟨a, c, rfl, hc, fun q => ?_⟩
  obtain ⟨g, o, rfl, hg, hcell⟩ := h3 q
  have hb := hf g o _ _ rfl q
  have hn : ¬ S g := fun h => by have := hS g h; omega
  refine ⟨g, o, rfl, Nat.lt_of_lt_of_le hg k.size, fun j x hx => ?_⟩
  rw [k.cell g _ hg hn, k.cell g _ hg hn]
  exact hcell j x hx
def CloneP (ps : List P4) (w : World) (e : Ending) (w' : World) : Prop := ∃ v', e = .returned v' ∧ Perss w' v' ps ∧ Fresh w.heap.size v' ∧ Kept w w'
def CloneF (ps : List Pr) (w : World) (e : Ending) (w' : World) : Prop := ∃ v', e = .returned v' ∧ Prs w' v' ps ∧ Fresh w.heap.size v' ∧ Kept w w'
set_option maxRecDepth 100000 in
set_option maxHeartbeats 1600000 in
theorem cloneP_any (v : Value) (ps : List P4) (w : World) (hv : Perss w v ps) (hN : ps.length ≤ 1100000) :
    Calls Tryz.prog 80 #[v] w (CloneP ps w) := by
  obtain ⟨i0, hi, hz0, hz1, hz2⟩ := info_parts Tryz.infoPers
  have qT : ∀ (w : World) (a : Option Addr) (n c n' c' : Nat), (binOp .eql 37 (.slice a n c) (.slice none n' c')).run Tryz.prog w = .ok (.bool a.isNone) w := fun w a n c n' c' => Lib.run_eql_slice_nil w _ _ a n c n' c' Tryz.underlying37
  have HV := Lib.hid hv
  obtain ⟨a, c, rfl, hc, h3⟩ := hv
  clear h3
  cases a with
  | none =>
    obtain rfl : ps = [] := HV.out.nil_
    go_enter Tryz.func80, Tryz.ntmps80
    go_wp2_with fail
    go_ret
    exact ⟨_, rfl, Perss.none_ _, Fresh.none_ _ _ _, Kept.refl _⟩
  | some ad =>
    have HNEWS := Lib.hid ((HV.out.kept (kept_alloc w (.cells #[] 32))).news)
    have hplen := persC_len ps
    have HONE := Lib.hid (persC_one ps)
    have HPO : Hid (∀ (w : World) (base : Nat) (e : TypeId) (v : Value) (n : Nat), n = ps.length → w.ownsRow base e 4 v n ([] ++ persC ps) → Perss w v ps) := by
      intro w base e v n hn h
      subst hn
      exact Perss.own (by simpa using h)
    go_enter Tryz.func80, Tryz.ntmps80
    go_wp2_with (at_builtin; refine wpList_append_own _ rfl _ _ 37 rfl w.heap.size 32 i0 _ 4 64 Tryz.underlying37 hi hz0 hz1 hz2 rfl (by decide) _ 0 [] rfl (World.ownsRow_made w #[] 0 (Nat.le_refl _) (by unfold maxLen; omega) (by simp)) ad ps.length c (persC ps) rfl hplen HNEWS.out HONE.out ?_ ?_ ?_ ?_)
    · unfold maxLen; omega
    · omega
    · simp
    intro v' w2 hown2 hgrow _
    have HR := Lib.hid (HPO.out _ _ _ _ _ (by omega) hown2)
    have HK := Lib.hid ((kept_alloc w (.cells #[] 32)).trans' (grown_below (World.ownsRow_made (size := 4) w #[] 0 (Nat.le_refl _) (by unfold maxLen; omega) (by simp)) hgrow (by simp)))
    have HFR := Lib.hid (Fresh.own hown2)
    clear hown2 hgrow
    go_wp2_with fail
    go_ret
    exact ⟨_, rfl, HR.out, HFR.out, HK.out⟩
set_option maxRecDepth 100000 in
set_option maxHeartbeats 1600000 in
theorem cloneF_any (v : Value) (ps : List Pr) (w : World) (hv : Prs w v ps) (hN : ps.length ≤ 1100000) :
    Calls Tryz.prog 81 #[v] w (CloneF ps w) := by
  obtain ⟨i0, hi, hz0, hz1, hz2⟩ := info_parts Tryz.infoPair
  have qT : ∀ (w : World) (a : Option Addr) (n c n' c' : Nat), (binOp .eql 38 (.slice a n c) (.slice none n' c')).run Tryz.prog w = .ok (.bool a.isNone) w := fun w a n c n' c' => Lib.run_eql_slice_nil w _ _ a n c n' c' Tryz.underlying38
  have HV := Lib.hid hv
  obtain ⟨a, c, rfl, hc, h3⟩ := hv
  clear h3
  cases a with
  | none =>
    obtain rfl : ps = [] := HV.out.nil_
    go_enter Tryz.func81, Tryz.ntmps81
    go_wp2_with fail
    go_ret
    exact ⟨_, rfl, Prs.none_ _, Fresh.none_ _ _ _, Kept.refl _⟩
  | some ad =>
    have HNEWS := Lib.hid ((HV.out.kept (kept_alloc w (.cells #[] 62))).news)
    have hplen := pairC_len ps
    have HONE := Lib.hid (pairC_one ps)
    have HPO : Hid (∀ (w : World) (base : Nat) (e : TypeId) (v : Value) (n : Nat), n = ps.length → w.ownsRow base e 2 v n ([] ++ pairC ps) → Prs w v ps) := by
      intro w base e v n hn h
      subst hn
      exact Prs.own (by simpa using h)
    go_enter Tryz.func81, Tryz.ntmps81
    go_wp2_with (at_builtin; refine wpList_append_own _ rfl _ _ 38 rfl w.heap.size 62 i0 _ 2 32 Tryz.underlying38 hi hz0 hz1 hz2 rfl (by decide) _ 0 [] rfl (World.ownsRow_made w #[] 0 (Nat.le_refl _) (by unfold maxLen; omega) (by simp)) ad ps.length c (pairC ps) rfl hplen HNEWS.out HONE.out ?_ ?_ ?_ ?_)
    · unfold maxLen; omega
    · omega
    · simp
    intro v' w2 hown2 hgrow _
    have HR := Lib.hid (HPO.out _ _ _ _ _ (by omega) hown2)
    have HK := Lib.hid ((kept_alloc w (.cells #[] 62)).trans' (grown_below (World.ownsRow_made (size := 2) w #[] 0 (Nat.le_refl _) (by unfold maxLen; omega) (by simp)) hgrow (by simp)))
    have HFR := Lib.hid (Fresh.own hown2)
    clear hown2 hgrow
    go_wp2_with fail
    go_ret
    exact ⟨_, rfl, HR.out, HFR.out, HK.out⟩
end Go.Proofs.YteflhlbgbgamnaaGreatDoor
