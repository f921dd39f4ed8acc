/- slices.Clone at lists of persons and of pairs. Conditions: lengths. -/
import Derived.Test.YtgkgcheegaegnaaGreatDoorT19
import Derived.Lib.SliceRun
import Derived.Deep.RegionLaw

set_option linter.all false
namespace Go.Proofs.YtgkgcheegaegnaaGreatDoor
open Go.RowKit

theorem add_at (g o j : Nat) : ((⟨g, o, none⟩ : Addr).add j) = ⟨g, o + j, none⟩ := by unfold Addr.add; split <;> simp_all
theorem persC_read (w : World) (g : Nat) (ps : List P4) : ∀ (o : Nat), (∀ j q, ps[j]? = some q → w.cell? ⟨g, o + j * 4, none⟩ = some (.string (bs q.1)) ∧ w.cell? ⟨g, o + j * 4 + 1, none⟩ = some (.string (bs q.2.1)) ∧ w.cell? ⟨g, o + j * 4 + 2, none⟩ = some (.string (bs q.2.2.1)) ∧ w.cell? ⟨g, o + j * 4 + 3, none⟩ = some (.string (bs q.2.2.2))) →
    ∀ j u, (persC ps)[j]? = some u → w.cell? ⟨g, o + j, none⟩ = some u := by
  induction ps with
  | nil => intro o _ j u h; cases h
  | cons p ps ih =>
    intro o hc j u h
    have e : persC (p :: ps) = .string (bs p.1) :: .string (bs p.2.1) :: .string (bs p.2.2.1) :: .string (bs p.2.2.2) :: persC ps := by simp [persC]
    rw [e] at h
    obtain ⟨c0, c1, c2, c3⟩ := hc 0 p rfl
    simp only [Nat.zero_mul, Nat.add_zero] at c0 c1 c2 c3
    match j with
    | 0 => simp at h; subst h; exact c0
    | 1 => simp at h; subst h; exact c1
    | 2 => simp at h; subst h; exact c2
    | 3 => simp at h; subst h; exact c3
    | j + 4 =>
      have := ih (o + 4) (fun i q hq => by
        have h4 := hc (i + 1) q (by simpa using hq)
        rw [show o + (i + 1) * 4 = o + 4 + i * 4 from by omega] at h4
        exact h4) j u (by simpa using h)
      rw [show o + (j + 4) = o + 4 + j from by omega]; exact this
theorem pairC_read (w : World) (g : Nat) (ps : List Pr) : ∀ (o : Nat), (∀ j q, ps[j]? = some q → w.cell? ⟨g, o + j * 2, none⟩ = some (.string (bs q.1)) ∧ w.cell? ⟨g, o + j * 2 + 1, none⟩ = some (.string (bs q.2))) →
    ∀ j u, (pairC ps)[j]? = some u → w.cell? ⟨g, o + j, none⟩ = some u := by
  induction ps with
  | nil => intro o _ j u h; cases h
  | cons p ps ih =>
    intro o hc j u h
    have e : pairC (p :: ps) = .string (bs p.1) :: .string (bs p.2) :: pairC ps := by simp [pairC]
    rw [e] at h
    obtain ⟨c0, c1⟩ := hc 0 p rfl
    simp only [Nat.zero_mul, Nat.add_zero] at c0 c1
    match j with
    | 0 => simp at h; subst h; exact c0
    | 1 => simp at h; subst h; exact c1
    | j + 2 =>
      have := ih (o + 2) (fun i q hq => by
        have h4 := hc (i + 1) q (by simpa using hq)
        rw [show o + (i + 1) * 2 = o + 2 + i * 2 from by omega] at h4
        exact h4) j u (by simpa using h)
      rw [show o + (j + 2) = o + 2 + j from by omega]; exact this
theorem persC_len (ps : List P4) : (persC ps).length = ps.length * 4 := by
  induction ps with
  | nil => rfl
  | cons p ps ih => have e : persC (p :: ps) = .string (bs p.1) :: .string (bs p.2.1) :: .string (bs p.2.2.1) :: .string (bs p.2.2.2) :: persC ps := by simp [persC]
                    rw [e]; simp only [List.length_cons, ih]; omega
theorem pairC_len (ps : List Pr) : (pairC ps).length = ps.length * 2 := by
  induction ps with
  | nil => rfl
  | cons p ps ih => have e : pairC (p :: ps) = .string (bs p.1) :: .string (bs p.2) :: pairC ps := by simp [pairC]
                    rw [e]; simp only [List.length_cons, ih]; omega
theorem persC_one (ps : List P4) : ∀ u ∈ persC ps, u.oneCell' = true := by
  intro u hu
  unfold persC at hu
  rw [List.mem_flatMap] at hu
  obtain ⟨q, _, hq⟩ := hu
  simp at hq
  rcases hq with rfl | rfl | rfl | rfl <;> rfl
theorem pairC_one (ps : List Pr) : ∀ u ∈ pairC ps, u.oneCell' = true := by
  intro u hu
  unfold pairC at hu
  rw [List.mem_flatMap] at hu
  obtain ⟨q, _, hq⟩ := hu
  simp at hq
  rcases hq with rfl | rfl <;> rfl
/-- The cells of a list of persons, by the address of the slice. -/
theorem Perss.news {w : World} {ad : Addr} {n c : Nat} {ps : List P4} (h : Perss w (.slice (some ad) n c) ps) : ∀ j u, (persC ps)[j]? = some u → w.cell? (ad.add j) = some u := by
  intro j u hu
  obtain ⟨a, c', hv, _, h3⟩ := h
  obtain ⟨rfl, _, _⟩ := Value.slice.inj hv
  have hp : 0 < ps.length := by
    cases ps with
    | nil => cases hu
    | cons p ps => simp
  obtain ⟨g, o, ha, _, hc⟩ := h3 hp
  cases ha
  rw [add_at]
  exact persC_read w g ps o hc j u hu
theorem Prs.news {w : World} {ad : Addr} {n c : Nat} {ps : List Pr} (h : Prs w (.slice (some ad) n c) ps) : ∀ j u, (pairC ps)[j]? = some u → w.cell? (ad.add j) = some u := by
  intro j u hu
  obtain ⟨a, c', hv, _, h3⟩ := h
  obtain ⟨rfl, _, _⟩ := Value.slice.inj hv
  have hp : 0 < ps.length := by
    cases ps with
    | nil => cases hu
    | cons p ps => simp
  obtain ⟨g, o, ha, _, hc⟩ := h3 hp
  cases ha
  rw [add_at]
  exact pairC_read w g ps o hc j u hu
theorem Perss.nil_ {w : World} {n c : Nat} {ps : List P4} (h : Perss w (.slice none n c) ps) : ps = [] := by
  obtain ⟨a, c', hv, _, h3⟩ := h
  obtain ⟨rfl, _, _⟩ := Value.slice.inj hv
  cases ps with
  | nil => rfl
  | cons p ps =>
    obtain ⟨g, o, ha, _⟩ := h3 (by simp)
    cases ha
theorem Prs.nil_ {w : World} {n c : Nat} {ps : List Pr} (h : Prs w (.slice none n c) ps) : ps = [] := by
  obtain ⟨a, c', hv, _, h3⟩ := h
  obtain ⟨rfl, _, _⟩ := Value.slice.inj hv
  cases ps with
  | nil => rfl
  | cons p ps =>
    obtain ⟨g, o, ha, _⟩ := h3 (by simp)
    cases ha
theorem Perss.none_ (w : World) : Perss w (.slice none 0 0) [] := ⟨none, 0, rfl, Nat.le_refl _, fun q => absurd q (by simp)⟩
theorem Prs.none_ (w : World) : Prs w (.slice none 0 0) [] := ⟨none, 0, rfl, Nat.le_refl _, fun q => absurd q (by simp)⟩
/-- A slice with cells lies in a block from B on. -/
def Fresh (B : Nat) (v : Value) : Prop := ∀ g o n c, v = .slice (some ⟨g, o, none⟩) n c → 0 < n → B ≤ g
theorem Fresh.none_ (B : Nat) (n c : Nat) : Fresh B (.slice none n c) := fun _ _ _ _ h => by cases h
theorem Fresh.own {w : World} {base : Nat} {e : TypeId} {size : Nat} {v : Value} {n : Nat} {xs : List Value} (h : w.ownsRow base e size v n xs) : Fresh base v := by
  obtain ⟨a, c, rfl, _, _, h3⟩ := own_cap h
  intro g o n' c' he hn
  obtain ⟨rfl, rfl, rfl⟩ := Value.slice.inj he
  obtain ⟨g', e', hb, _⟩ := h3 hn
  cases e'; exact hb
theorem Perss.away {S : Nat → Prop} {w w' : World} {B : Nat} {v : Value} {ps : List P4} (h : Perss w v ps) (hf : Fresh B v) (k : Only S w w') (hS : ∀ i, S i → i < B) : Perss w' v ps := by
  obtain ⟨a, c, rfl, hc, h3⟩ := h
  refine ⟨a, c, rfl, hc, fun q => ?_⟩
  obtain ⟨g, o, rfl, hg, hcell⟩ := h3 q
  have hb := hf g o _ _ rfl q
  have hn : ¬ S g := fun h => by have := hS g h; omega
  refine ⟨g, o, rfl, Nat.lt_of_lt_of_le hg k.size, fun j x hx => ?_⟩
  rw [k.cell g _ hg hn, k.cell g _ hg hn, k.cell g _ hg hn, k.cell g _ hg hn]
  exact hcell j x hx
theorem Prs.away {S : Nat → Prop} {w w' : World} {B : Nat} {v : Value} {ps : List Pr} (h : Prs w v ps) (hf : Fresh B v) (k : Only S w w') (hS : ∀ i, S i → i < B) : Prs w' v ps := by
  obtain ⟨a, c, rfl, hc, h3⟩ := h
  refine ⟨a, c, rfl, hc, fun q => ?_⟩
  obtain ⟨g, o, rfl, hg, hcell⟩ := h3 q
  have hb := hf g o _ _ rfl q
  have hn : ¬ S g := fun h => by have := hS g h; omega
  refine ⟨g, o, rfl, Nat.lt_of_lt_of_le hg k.size, fun j x hx => ?_⟩
  rw [k.cell g _ hg hn, k.cell g _ hg hn]
  exact hcell j x hx
def CloneP (ps : List P4) (w : World) (e : Ending) (w' : World) : Prop := ∃ v', e = .returned v' ∧ Perss w' v' ps ∧ Fresh w.heap.size v' ∧ Kept w w'
def CloneF (ps : List Pr) (w : World) (e : Ending) (w' : World) : Prop := ∃ v', e = .returned v' ∧ Prs w' v' ps ∧ Fresh w.heap.size v' ∧ Kept w w'
set_option maxRecDepth 100000 in
set_option maxHeartbeats 1600000 in
theorem cloneP_any (v : Value) (ps : List P4) (w : World) (hv : Perss w v ps) (hN : ps.length ≤ 1100000) :
    Calls Tryz.prog 42 #[v] w (CloneP ps w) := by
  obtain ⟨i0, hi, hz0, hz1, hz2⟩ := info_parts Tryz.infoPers
  have qT : ∀ (w : World) (a : Option Addr) (n c n' c' : Nat), (binOp .eql 41 (.slice a n c) (.slice none n' c')).run Tryz.prog w = .ok (.bool a.isNone) w := fun w a n c n' c' => Lib.run_eql_slice_nil w _ _ a n c n' c' Tryz.underlying41
  have HV := Lib.hid hv
  obtain ⟨a, c, rfl, hc, h3⟩ := hv
  clear h3
  cases a with
  | none =>
    obtain rfl : ps = [] := HV.out.nil_
    go_enter Tryz.func42, Tryz.ntmps42
    go_wp2_with fail
    go_ret
    exact ⟨_, rfl, Perss.none_ _, Fresh.none_ _ _ _, Kept.refl _⟩
  | some ad =>
    have HNEWS := Lib.hid ((HV.out.kept (kept_alloc w (.cells #[] 36))).news)
    have hplen := persC_len ps
    have HONE := Lib.hid (persC_one ps)
    have HPO : Hid (∀ (w : World) (base : Nat) (e : TypeId) (v : Value) (n : Nat), n = ps.length → w.ownsRow base e 4 v n ([] ++ persC ps) → Perss w v ps) := by
      intro w base e v n hn h
      subst hn
      exact Perss.own (by simpa using h)
    go_enter Tryz.func42, Tryz.ntmps42
    go_wp2_with (at_builtin; refine wpList_append_own _ rfl _ _ 41 rfl w.heap.size 36 i0 _ 4 64 Tryz.underlying41 hi hz0 hz1 hz2 rfl (by decide) _ 0 [] rfl (World.ownsRow_made w #[] 0 (Nat.le_refl _) (by unfold maxLen; omega) (by simp)) ad ps.length c (persC ps) rfl hplen HNEWS.out HONE.out ?_ ?_ ?_ ?_)
    · unfold maxLen; omega
    · omega
    · simp
    intro v' w2 hown2 hgrow _
    have HR := Lib.hid (HPO.out _ _ _ _ _ (by omega) hown2)
    have HK := Lib.hid ((kept_alloc w (.cells #[] 36)).trans' (grown_below (World.ownsRow_made (size := 4) w #[] 0 (Nat.le_refl _) (by unfold maxLen; omega) (by simp)) hgrow (by simp)))
    have HFR := Lib.hid (Fresh.own hown2)
    clear hown2 hgrow
    go_wp2_with fail
    go_ret
    exact ⟨_, rfl, HR.out, HFR.out, HK.out⟩
set_option maxRecDepth 100000 in
set_option maxHeartbeats 1600000 in
theorem cloneF_any (v : Value) (ps : List Pr) (w : World) (hv : Prs w v ps) (hN : ps.length ≤ 1100000) :
    Calls Tryz.prog 43 #[v] w (CloneF ps w) := by
  obtain ⟨i0, hi, hz0, hz1, hz2⟩ := info_parts Tryz.infoPair
  have qT : ∀ (w : World) (a : Option Addr) (n c n' c' : Nat), (binOp .eql 42 (.slice a n c) (.slice none n' c')).run Tryz.prog w = .ok (.bool a.isNone) w := fun w a n c n' c' => Lib.run_eql_slice_nil w _ _ a n c n' c' Tryz.underlying42
  have HV := Lib.hid hv
  obtain ⟨a, c, rfl, hc, h3⟩ := hv
  clear h3
  cases a with
  | none =>
    obtain rfl : ps = [] := HV.out.nil_
    go_enter Tryz.func43, Tryz.ntmps43
    go_wp2_with fail
    go_ret
    exact ⟨_, rfl, Prs.none_ _, Fresh.none_ _ _ _, Kept.refl _⟩
  | some ad =>
    have HNEWS := Lib.hid ((HV.out.kept (kept_alloc w (.cells #[] 47))).news)
    have hplen := pairC_len ps
    have HONE := Lib.hid (pairC_one ps)
    have HPO : Hid (∀ (w : World) (base : Nat) (e : TypeId) (v : Value) (n : Nat), n = ps.length → w.ownsRow base e 2 v n ([] ++ pairC ps) → Prs w v ps) := by
      intro w base e v n hn h
      subst hn
      exact Prs.own (by simpa using h)
    go_enter Tryz.func43, Tryz.ntmps43
    go_wp2_with (at_builtin; refine wpList_append_own _ rfl _ _ 42 rfl w.heap.size 47 i0 _ 2 32 Tryz.underlying42 hi hz0 hz1 hz2 rfl (by decide) _ 0 [] rfl (World.ownsRow_made w #[] 0 (Nat.le_refl _) (by unfold maxLen; omega) (by simp)) ad ps.length c (pairC ps) rfl hplen HNEWS.out HONE.out ?_ ?_ ?_ ?_)
    · unfold maxLen; omega
    · omega
    · simp
    intro v' w2 hown2 hgrow _
    have HR := Lib.hid (HPO.out _ _ _ _ _ (by omega) hown2)
    have HK := Lib.hid ((kept_alloc w (.cells #[] 47)).trans' (grown_below (World.ownsRow_made (size := 2) w #[] 0 (Nat.le_refl _) (by unfold maxLen; omega) (by simp)) hgrow (by simp)))
    have HFR := Lib.hid (Fresh.own hown2)
    clear hown2 hgrow
    go_wp2_with fail
    go_ret
    exact ⟨_, rfl, HR.out, HFR.out, HK.out⟩
end Go.Proofs.YtgkgcheegaegnaaGreatDoor

/- bib.addPerson. Conditions: lengths. -/
set_option linter.all false
namespace Go.Proofs.YtgkgcheegaegnaaGreatDoor
open Go.RowKit

/-- An append to a row, and the store of its slice into the block r: what that leaves. -/
theorem pushed_of {r o T : Nat} {e : TypeId} {size n : Nat} {xs : List Value} {v : Value} {w wa w3 : World} {g cap : Nat} (hk : Kept w wa) (hg : wa.grownBy w3 v.ownBlock) (hO : w3.ownsRow T e size (.slice (some ⟨g, 0, none⟩) n cap) n xs)
    (hat : v.ownBlock = some g ∨ w.heap.size ≤ g) (hv : ∀ k, v.ownBlock = some k → T ≤ k) (hT : r < T) (hr : r < w.heap.size) (hn : 0 < n) :
    Pushed r o T e size n xs v w (w3.setCell ⟨r, o, none⟩ (.slice (some ⟨g, 0, none⟩) n cap)) := by
  have hTg : T ≤ g := by
    rcases hO.2 with ⟨_, h0⟩ | ⟨g', cap', cur, hv', hb, _⟩
    · omega
    · simp at hv'; omega
  have hne : some r ≠ v.ownBlock := fun q => by have := hv r q.symm; omega
  refine ⟨⟨g, cap, ?_, hat, fun t cs hB => ?_⟩, ?_⟩
  · exact (Only.setCell r o _).own hO (fun g' h q => by simp [Value.ownBlock] at h; omega)
  · have h1 := hB.kept hk
    have h2 : Blk w3 r t cs := (hg.block r (by have := hk.size; omega) hne).trans h1
    exact set_blk h2 _
  · refine (Only.of_kept hk).trans (((Only.grown hg).mono (fun i _ h => .inl h)).trans ((Only.setCell r o _).mono (fun i _ h => .inr h)))
set_option maxRecDepth 100000 in
set_option maxHeartbeats 1600000 in
theorem addp_no (r o : Nat) (l : Bs) (w : World) (hg : Gnd w) (hl : l.length ≤ 1000000) (hn : (parseR l).1 ≠ 0) :
    Calls Tryz.prog 69 #[.pointer (some ⟨r, o, none⟩), .string (bs l)] w fun e w' => e = .returned (.int .i64 (parseR l).1) ∧ Kept w w' := by
  have HP := Lib.hid (parse_any l w hg hl)
  unfold ParsePost at HP
  generalize (parseR l).1 = n at *
  generalize (parseR l).2 = q at *
  have hn1 : (n != 0) = true := by simpa using hn
  have hn2 : (n == 0) = false := by simpa using hn
  clear hn
  obtain ⟨q1, q2, q3, q4⟩ := q
  go_enter Tryz.func69, Tryz.ntmps69
  go_wp2_with fail
  refine HP.out.mono ?_
  rintro e w1 ⟨rfl, hk1⟩
  have HK := Lib.hid hk1
  clear hk1
  go_wp2_with fail
  go_ret
  exact ⟨rfl, HK.out.trans (kept_alloc _ _)⟩

set_option maxRecDepth 100000 in
set_option maxHeartbeats 1600000 in
theorem addp_full (r o n : Nat) (a : Option Addr) (c : Nat) (l : Bs) (w : World) (hg : Gnd w) (hl : l.length ≤ 1000000) (hn : (parseR l).1 = 0) (hc : w.cell? ⟨r, o, none⟩ = some (.slice a n c)) (h32 : 32 ≤ n) (hnn : n ≤ 1000000) :
    Calls Tryz.prog 69 #[.pointer (some ⟨r, o, none⟩), .string (bs l)] w fun e w' => e = .returned (.int .i64 3) ∧ Kept w w' := by
  have HP := Lib.hid (parse_any l w hg hl)
  unfold ParsePost at HP
  rw [hn] at HP
  clear hn
  generalize (parseR l).2 = q at *
  obtain ⟨q1, q2, q3, q4⟩ := q
  have hb := World.block_lt_of_cell? w (a := ⟨r, o, none⟩) hc
  simp only at hb
  have HC := Lib.hid hc
  clear hc
  go_enter Tryz.func69, Tryz.ntmps69
  go_wp2_with fail
  refine HP.out.mono ?_
  rintro e w1 ⟨rfl, hk1⟩
  have c0 : w1.cell? ⟨r, o, none⟩ = some (.slice a n c) := (hk1.cell (p := ⟨r, o, none⟩) hb).trans HC.out
  have hb1 : r < w1.heap.size := by have := hk1.size; omega
  have HK := Lib.hid hk1
  clear hk1
  go_wp2_with fail
  go_ret
  exact ⟨rfl, HK.out.trans (kept_alloc _ _)⟩

set_option maxRecDepth 100000 in
set_option maxHeartbeats 3200000 in
theorem addp_ok (r o T : Nat) (v : Value) (ps : List P4) (l : Bs) (t : TypeId) (cs : Array Value) (w : World) (hg : Gnd w) (hl : l.length ≤ 1000000) (hn : (parseR l).1 = 0) (hr : Blk w r t cs) (hco : cs[o]? = some v) (hT : r < T) (hTs : T ≤ w.heap.size)
    (hown : w.ownsRow T 36 4 v ps.length (persC ps)) (h32 : ps.length < 32) :
    Calls Tryz.prog 69 #[.pointer (some ⟨r, o, none⟩), .string (bs l)] w fun e w' => e = .returned (.int .i64 0) ∧ Pushed r o T 36 4 (ps.length + 1) (persC (ps ++ [(parseR l).2])) v w w' := by
  obtain ⟨i0, hi, hz0, hz1, hz2⟩ := info_parts Tryz.infoPers
  have HP := Lib.hid (parse_any l w hg hl)
  unfold ParsePost at HP
  rw [hn] at HP
  clear hn
  generalize (parseR l).2 = q at *
  obtain ⟨q1, q2, q3, q4⟩ := q
  obtain ⟨a, c, hv, hcc, _, _⟩ := own_cap hown
  have HOWN := Lib.hid hown
  have HR := Lib.hid hr
  have hrl := hr.lt
  subst hv
  clear hown hr
  go_enter Tryz.func69, Tryz.ntmps69
  go_wp2_with fail
  refine HP.out.mono ?_
  rintro e w1 ⟨rfl, hk1⟩
  have HR1 := Lib.hid (HR.out.kept hk1)
  have c0 : w1.cell? ⟨r, o, none⟩ = some (.slice a ps.length c) := HR1.out.cell o _ hco
  have hb1 : r < w1.heap.size := HR1.out.lt
  have hT1 : T ≤ w1.heap.size := by have := hk1.size; omega
  have HOWN1 := Lib.hid (own_kept HOWN.out hk1)
  have HK1 := Lib.hid hk1
  clear hk1
  go_wp2_with fail
  have hown2 := HOWN1.out.alloc (.cells #[.string (bs q1), .string (bs q2), .string (bs q3), .string (bs q4)] 36)
  have HR2 := Lib.hid (HR1.out.alloc (.cells #[.string (bs q1), .string (bs q2), .string (bs q3), .string (bs q4)] 36))
  have HK2 := Lib.hid (HK1.out.trans (kept_alloc w1 (.cells #[.string (bs q1), .string (bs q2), .string (bs q3), .string (bs q4)] 36)))
  have HB2 := Lib.hid (Blk.new w1 36 #[.string (bs q1), .string (bs q2), .string (bs q3), .string (bs q4)])
  generalize w1.alloc (.cells #[.string (bs q1), .string (bs q2), .string (bs q3), .string (bs q4)] 36) = w2 at *
  have e0 : w2.cell? ⟨r, o, none⟩ = some (.slice a ps.length c) := HR2.out.cell o _ hco
  have d0 : w2.cell? ⟨w1.heap.size, 0, none⟩ = some (.string (bs q1)) := HB2.out.cell 0 _ rfl
  have d1 : w2.cell? ⟨w1.heap.size, 1, none⟩ = some (.string (bs q2)) := HB2.out.cell 1 _ rfl
  have d2 : w2.cell? ⟨w1.heap.size, 2, none⟩ = some (.string (bs q3)) := HB2.out.cell 2 _ rfl
  have d3 : w2.cell? ⟨w1.heap.size, 3, none⟩ = some (.string (bs q4)) := HB2.out.cell 3 _ rfl
  have z2 := HB2.out.lt
  have hb2 := HR2.out.lt
  have hT2 : T ≤ w2.heap.size := by omega
  have HOWN2 := Lib.hid hown2
  have HNEWS := Lib.hid (World.news_of_block (w := (w2.alloc (.cells #[.string (bs q1), .string (bs q2), .string (bs q3), .string (bs q4)] 36)).drew) (B := w2.heap.size) (cs := #[.string (bs q1), .string (bs q2), .string (bs q3), .string (bs q4)]) (t := 36) (fr := (0, 0)) (heap_alloc_new w2 _))
  have HRB := Lib.hid (((HR2.out.alloc (.cells #[.string (bs q1), .string (bs q2), .string (bs q3), .string (bs q4)] 36)).kept (kept_drewN _ 1)))
  have HRN : Hid (some r ≠ (Value.slice a ps.length c).ownBlock) := fun q => by
    have := (HOWN2.out.lt r q.symm).1; omega
  clear hown2 c0
  go_region_law ((refine step_append_lies _ rfl (.tmp 23) (.tmp 25) 41 rfl T 36 i0 _ 4 64 Tryz.underlying41 hi hz0 hz1 hz2 rfl (by omega) (.slice a ps.length c) ps.length (persC ps) (by simp [Act.eval, Act.put]) ((HOWN2.out.alloc _).drew) ⟨w2.heap.size, 0, none⟩ 1 1 [.string (bs q1), .string (bs q2), .string (bs q3), .string (bs q4)] (by simp [Act.eval, Act.put]) rfl HNEWS.out (by simp [Value.oneCell']) (by omega) (by unfold maxLen; omega) (by omega) (by simp; omega) (w2.heap.size + 1) (by simp) ?_; intro g cap w3 hown3 hgrow hat hlt; have hrb := hgrow.block r (by simp; omega) HRN.out; have HRW := Lib.hid (show Blk w3 r t cs from hrb.trans HRB.out); have f3 : w3.cell? ⟨r, o, none⟩ = some (.slice a ps.length c) := HRW.out.cell o _ hco; have f4 : w3.frozen? ⟨r, o, none⟩ = false := HRW.out.free o; have z3 := HRW.out.lt; have HG3 := Lib.hid hgrow; have HO3 := Lib.hid hown3; have HAT := Lib.hid hat; clear hgrow hown3 hat hrb))
  all_goals
    go_wp2_with fail
    go_ret
    refine ⟨rfl, pushed_of ((HK2.out.trans (kept_alloc w2 _)).trans (kept_drewN _ 1)) HG3.out (by rw [persC_snoc]; exact HO3.out) ?_ (fun k h => (HOWN2.out.lt k h).1) hT hrl (by omega)⟩
    rcases HAT.out with h | h
    · exact .inl h
    · have := HK2.out.size; exact .inr (by omega)
end Go.Proofs.YtgkgcheegaegnaaGreatDoor
