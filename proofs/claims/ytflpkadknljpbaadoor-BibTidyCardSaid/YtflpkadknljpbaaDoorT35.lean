/- slices.Clone at lists of persons and of pairs. Conditions: lengths. -/
import Derived.Test.YtflpkadknljpbaaDoorT20
import Derived.Test.YtflpkadknljpbaaDoorT26
import Derived.Lib.SliceRun

set_option linter.all false
namespace Go.Proofs.YtflpkadknljpbaaDoor
open Go.RowKit

theorem add_at (g o j : Nat) : ((⟨g, o, none⟩ : Addr).add j) = ⟨g, o + j, none⟩ := by unfold Addr.add; split <;> simp_all
theorem persC_read (w : World) (g : Nat) (ps : List P4) : ∀ (o : Nat), (∀ j q, ps[j]? = some q → w.cell? ⟨g, o + j * 4, none⟩ = some (.string (bs q.1)) ∧ w.cell? ⟨g, o + j * 4 + 1, none⟩ = some (.string (bs q.2.1)) ∧ w.cell? ⟨g, o + j * 4 + 2, none⟩ = some (.string (bs q.2.2.1)) ∧ w.cell? ⟨g, o + j * 4 + 3, none⟩ = some (.string (bs q.2.2.2))) →
    ∀ j u, (persC ps)[j]? = some u → w.cell? ⟨g, o + j, none⟩ = some u := by
  induction ps with
  | nil => intro o _ j u h; cases h
  | cons p ps ih =>
    intro o hc j u h
    have e : persC (p :: ps) = .string (bs p.1) :: .string (bs p.2.1) :: .string (bs p.2.2.1) :: .string (bs p.2.2.2) :: persC ps := by simp [persC]
    rw [e] at h
    obtain ⟨c0, c1, c2, c3⟩ := hc 0 p rfl
    simp only [Nat.zero_mul, Nat.add_zero] at c0 c1 c2 c3
    match j with
    | 0 => simp at h; subst h; exact c0
    | 1 => simp at h; subst h; exact c1
    | 2 => simp at h; subst h; exact c2
    | 3 => simp at h; subst h; exact c3
    | j + 4 =>
      have := ih (o + 4) (fun i q hq => by
        have h4 := hc (i + 1) q (by simpa using hq)
        rw [show o + (i + 1) * 4 = o + 4 + i * 4 from by omega] at h4
        exact h4) j u (by simpa using h)
      rw [show o + (j + 4) = o + 4 + j from by omega]; exact this
theorem pairC_read (w : World) (g : Nat) (ps : List Pr) : ∀ (o : Nat), (∀ j q, ps[j]? = some q → w.cell? ⟨g, o + j * 2, none⟩ = some (.string (bs q.1)) ∧ w.cell? ⟨g, o + j * 2 + 1, none⟩ = some (.string (bs q.2))) →
    ∀ j u, (pairC ps)[j]? = some u → w.cell? ⟨g, o + j, none⟩ = some u := by
  induction ps with
  | nil => intro o _ j u h; cases h
  | cons p ps ih =>
    intro o hc j u h
    have e : pairC (p :: ps) = .string (bs p.1) :: .string (bs p.2) :: pairC ps := by simp [pairC]
    rw [e] at h
    obtain ⟨c0, c1⟩ := hc 0 p rfl
    simp only [Nat.zero_mul, Nat.add_zero] at c0 c1
    match j with
    | 0 => simp at h; subst h; exact c0
    | 1 => simp at h; subst h; exact c1
    | j + 2 =>
      have := ih (o + 2) (fun i q hq => by
        have h4 := hc (i + 1) q (by simpa using hq)
        rw [show o + (i + 1) * 2 = o + 2 + i * 2 from by omega] at h4
        exact h4) j u (by simpa using h)
      rw [show o + (j + 2) = o + 2 + j from by omega]; exact this
theorem persC_len (ps : List P4) : (persC ps).length = ps.length * 4 := by
  induction ps with
  | nil => rfl
  | cons p ps ih => have e : persC (p :: ps) = .string (bs p.1) :: .string (bs p.2.1) :: .string (bs p.2.2.1) :: .string (bs p.2.2.2) :: persC ps := by simp [persC]
                    rw [e]; simp only [List.length_cons, ih]; omega
theorem pairC_len (ps : List Pr) : (pairC ps).length = ps.length * 2 := by
  induction ps with
  | nil => rfl
  | cons p ps ih => have e : pairC (p :: ps) = .string (bs p.1) :: .string (bs p.2) :: pairC ps := by simp [pairC]
                    rw [e]; simp only [List.length_cons, ih]; omega
theorem persC_one (ps : List P4) : ∀ u ∈ persC ps, u.oneCell' = true := by
  intro u hu
  unfold persC at hu
  rw [List.mem_flatMap] at hu
  obtain ⟨q, _, hq⟩ := hu
  simp at hq
  rcases hq with rfl | rfl | rfl | rfl <;> rfl
theorem pairC_one (ps : List Pr) : ∀ u ∈ pairC ps, u.oneCell' = true := by
  intro u hu
  unfold pairC at hu
  rw [List.mem_flatMap] at hu
  obtain ⟨q, _, hq⟩ := hu
  simp at hq
  rcases hq with rfl | rfl <;> rfl
/-- The cells of a list of persons, by the address of the slice. -/
theorem Perss.news {w : World} {ad : Addr} {n c : Nat} {ps : List P4} (h : Perss w (.slice (some ad) n c) ps) : ∀ j u, (persC ps)[j]? = some u → w.cell? (ad.add j) = some u := by
  intro j u hu
  obtain ⟨a, c', hv, _, h3⟩ := h
  obtain ⟨rfl, _, _⟩ := Value.slice.inj hv
  have hp : 0 < ps.length := by
    cases ps with
    | nil => cases hu
    | cons p ps => simp
  obtain ⟨g, o, ha, _, hc⟩ := h3 hp
  cases ha
  rw [add_at]
  exact persC_read w g ps o hc j u hu
theorem Prs.news {w : World} {ad : Addr} {n c : Nat} {ps : List Pr} (h : Prs w (.slice (some ad) n c) ps) : ∀ j u, (pairC ps)[j]? = some u → w.cell? (ad.add j) = some u := by
  intro j u hu
  obtain ⟨a, c', hv, _, h3⟩ := h
  obtain ⟨rfl, _, _⟩ := Value.slice.inj hv
  have hp : 0 < ps.length := by
    cases ps with
    | nil => cases hu
    | cons p ps => simp
  obtain ⟨g, o, ha, _, hc⟩ := h3 hp
  cases ha
  rw [add_at]
  exact pairC_read w g ps o hc j u hu
theorem Perss.nil_ {w : World} {n c : Nat} {ps : List P4} (h : Perss w (.slice none n c) ps) : ps = [] := by
  obtain ⟨a, c', hv, _, h3⟩ := h
  obtain ⟨rfl, _, _⟩ := Value.slice.inj hv
  cases ps with
  | nil => rfl
  | cons p ps =>
    obtain ⟨g, o, ha, _⟩ := h3 (by simp)
    cases ha
theorem Prs.nil_ {w : World} {n c : Nat} {ps : List Pr} (h : Prs w (.slice none n c) ps) : ps = [] := by
  obtain ⟨a, c', hv, _, h3⟩ := h
  obtain ⟨rfl, _, _⟩ := Value.slice.inj hv
  cases ps with
  | nil => rfl
  | cons p ps =>
    obtain ⟨g, o, ha, _⟩ := h3 (by simp)
    cases ha
theorem Perss.none_ (w : World) : Perss w (.slice none 0 0) [] := ⟨none, 0, rfl, Nat.le_refl _, fun q => absurd q (by simp)⟩
theorem Prs.none_ (w : World) : Prs w (.slice none 0 0) [] := ⟨none, 0, rfl, Nat.le_refl _, fun q => absurd q (by simp)⟩
/-- A slice with cells lies in a block from B on. -/
def Fresh (B : Nat) (v : Value) : Prop := ∀ g o n c, v = .slice (some ⟨g, o, none⟩) n c → 0 < n → B ≤ g
theorem Fresh.none_ (B : Nat) (n c : Nat) : Fresh B (.slice none n c) := fun _ _ _ _ h => by cases h
theorem Fresh.own {w : World} {base : Nat} {e : TypeId} {size : Nat} {v : Value} {n : Nat} {xs : List Value} (h : w.ownsRow base e size v n xs) : Fresh base v := by
  obtain ⟨a, c, rfl, _, _, h3⟩ := own_cap h
  intro g o n' c' he hn
  obtain ⟨rfl, rfl, rfl⟩ := Value.slice.inj he
  obtain ⟨g', e', hb, _⟩ := h3 hn
  cases e'; exact hb
theorem Perss.away {S : Nat → Prop} {w w' : World} {B : Nat} {v : Value} {ps : List P4} (h : Perss w v ps) (hf : Fresh B v) (k : Only S w w') (hS : ∀ i, S i → i < B) : Perss w' v ps := by
  obtain ⟨a, c, rfl, hc, h3⟩ := h
  refine ⟨a, c, rfl, hc, fun q => ?_⟩
  obtain ⟨g, o, rfl, hg, hcell⟩ := h3 q
  have hb := hf g o _ _ rfl q
  have hn : ¬ S g := fun h => by have := hS g h; omega
  refine ⟨g, o, rfl, Nat.lt_of_lt_of_le hg k.size, fun j x hx => ?_⟩
  rw [k.cell g _ hg hn, k.cell g _ hg hn, k.cell g _ hg hn, k.cell g _ hg hn]
  exact hcell j x hx
theorem Prs.away {S : Nat → Prop} {w w' : World} {B : Nat} {v : Value} {ps : List Pr} (h : Prs w v ps) (hf : Fresh B v) (k : Only S w w') (hS : ∀ i, S i → i < B) : Prs w' v ps := by
  obtain ⟨a, c, rfl, hc, h3⟩ := h
  refine ⟨a, c, rfl, hc, fun q => ?_⟩
  obtain ⟨g, o, rfl, hg, hcell⟩ := h3 q
  have hb := hf g o _ _ rfl q
  have hn : ¬ S g := fun h => by have := hS g h; omega
  refine ⟨g, o, rfl, Nat.lt_of_lt_of_le hg k.size, fun j x hx => ?_⟩
  rw [k.cell g _ hg hn, k.cell g _ hg hn]
  exact hcell j x hx
def CloneP (ps : List P4) (w : World) (e : Ending) (w' : World) : Prop := ∃ v', e = .returned v' ∧ Perss w' v' ps ∧ Fresh w.heap.size v' ∧ Kept w w'
def CloneF (ps : List Pr) (w : World) (e : Ending) (w' : World) : Prop := ∃ v', e = .returned v' ∧ Prs w' v' ps ∧ Fresh w.heap.size v' ∧ Kept w w'
set_option maxRecDepth 100000 in
set_option maxHeartbeats 1600000 in
theorem cloneP_any (v : Value) (ps : List P4) (w : World) (hv : Perss w v ps) (hN : ps.length ≤ 1000000) :
    Calls Tryd.prog 67 #[v] w (CloneP ps w) := by
  obtain ⟨i0, hi, hz0, hz1, hz2⟩ := info_parts Tryd.infoPers
  have qT : ∀ (w : World) (a : Option Addr) (n c n' c' : Nat), (binOp .eql 35 (.slice a n c) (.slice none n' c')).run Tryd.prog w = .ok (.bool a.isNone) w := fun w a n c n' c' => Lib.run_eql_slice_nil w _ _ a n c n' c' Tryd.underlying35
  have HV := Lib.hid hv
  obtain ⟨a, c, rfl, hc, h3⟩ := hv
  clear h3
  cases a with
  | none =>
    obtain rfl : ps = [] := HV.out.nil_
    go_enter Tryd.func67, Tryd.ntmps67
    go_wp2_with fail
    go_ret
    exact ⟨_, rfl, Perss.none_ _, Fresh.none_ _ _ _, Kept.refl _⟩
  | some ad =>
    have HNEWS := Lib.hid ((HV.out.kept (kept_alloc w (.cells #[] 24))).news)
    have hplen := persC_len ps
    have HONE := Lib.hid (persC_one ps)
    have HPO : Hid (∀ (w : World) (base : Nat) (e : TypeId) (v : Value) (n : Nat), n = ps.length → w.ownsRow base e 4 v n ([] ++ persC ps) → Perss w v ps) := by
      intro w base e v n hn h
      subst hn
      exact Perss.own (by simpa using h)
    go_enter Tryd.func67, Tryd.ntmps67
    go_wp2_with (at_builtin; refine wpList_append_own _ rfl _ _ 35 rfl w.heap.size 24 i0 _ 4 64 Tryd.underlying35 hi hz0 hz1 hz2 rfl (by decide) _ 0 [] rfl (World.ownsRow_made w #[] 0 (Nat.le_refl _) (by unfold maxLen; omega) (by simp)) ad ps.length c (persC ps) rfl hplen HNEWS.out HONE.out ?_ ?_ ?_ ?_)
    · unfold maxLen; omega
    · omega
    · simp
    intro v' w2 hown2 hgrow _
    have HR := Lib.hid (HPO.out _ _ _ _ _ (by omega) hown2)
    have HK := Lib.hid ((kept_alloc w (.cells #[] 24)).trans' (grown_below (World.ownsRow_made (size := 4) w #[] 0 (Nat.le_refl _) (by unfold maxLen; omega) (by simp)) hgrow (by simp)))
    have HFR := Lib.hid (Fresh.own hown2)
    clear hown2 hgrow
    go_wp2_with fail
    go_ret
    exact ⟨_, rfl, HR.out, HFR.out, HK.out⟩
set_option maxRecDepth 100000 in
set_option maxHeartbeats 1600000 in
theorem cloneF_any (v : Value) (ps : List Pr) (w : World) (hv : Prs w v ps) (hN : ps.length ≤ 1000000) :
    Calls Tryd.prog 68 #[v] w (CloneF ps w) := by
  obtain ⟨i0, hi, hz0, hz1, hz2⟩ := info_parts Tryd.infoPair
  have qT : ∀ (w : World) (a : Option Addr) (n c n' c' : Nat), (binOp .eql 46 (.slice a n c) (.slice none n' c')).run Tryd.prog w = .ok (.bool a.isNone) w := fun w a n c n' c' => Lib.run_eql_slice_nil w _ _ a n c n' c' Tryd.underlying46
  have HV := Lib.hid hv
  obtain ⟨a, c, rfl, hc, h3⟩ := hv
  clear h3
  cases a with
  | none =>
    obtain rfl : ps = [] := HV.out.nil_
    go_enter Tryd.func68, Tryd.ntmps68
    go_wp2_with fail
    go_ret
    exact ⟨_, rfl, Prs.none_ _, Fresh.none_ _ _ _, Kept.refl _⟩
  | some ad =>
    have HNEWS := Lib.hid ((HV.out.kept (kept_alloc w (.cells #[] 78))).news)
    have hplen := pairC_len ps
    have HONE := Lib.hid (pairC_one ps)
    have HPO : Hid (∀ (w : World) (base : Nat) (e : TypeId) (v : Value) (n : Nat), n = ps.length → w.ownsRow base e 2 v n ([] ++ pairC ps) → Prs w v ps) := by
      intro w base e v n hn h
      subst hn
      exact Prs.own (by simpa using h)
    go_enter Tryd.func68, Tryd.ntmps68
    go_wp2_with (at_builtin; refine wpList_append_own _ rfl _ _ 46 rfl w.heap.size 78 i0 _ 2 32 Tryd.underlying46 hi hz0 hz1 hz2 rfl (by decide) _ 0 [] rfl (World.ownsRow_made w #[] 0 (Nat.le_refl _) (by unfold maxLen; omega) (by simp)) ad ps.length c (pairC ps) rfl hplen HNEWS.out HONE.out ?_ ?_ ?_ ?_)
    · unfold maxLen; omega
    · omega
    · simp
    intro v' w2 hown2 hgrow _
    have HR := Lib.hid (HPO.out _ _ _ _ _ (by omega) hown2)
    have HK := Lib.hid ((kept_alloc w (.cells #[] 78)).trans' (grown_below (World.ownsRow_made (size := 2) w #[] 0 (Nat.le_refl _) (by unfold maxLen; omega) (by simp)) hgrow (by simp)))
    have HFR := Lib.hid (Fresh.own hown2)
    clear hown2 hgrow
    go_wp2_with fail
    go_ret
    exact ⟨_, rfl, HR.out, HFR.out, HK.out⟩
end Go.Proofs.YtflpkadknljpbaaDoor

/- bib.Find and ref30.Find. Conditions: lengths. -/
set_option linter.all false
namespace Go.Proofs.YtflpkadknljpbaaDoor
open Go.RowKit

def findS (ss : List SrcT) (k : Bs) : Option SrcT := ss.find? fun s => s.key == k
theorem findS_at (ss : List SrcT) (k : Bs) (n : Nat) (s : SrcT) (hx : ss[n]? = some s) (hb : ∀ x ∈ ss.take n, (x.key == k) = false) (hk : (s.key == k) = true) : findS ss k = some s := by
  obtain ⟨hk', rfl⟩ := List.getElem?_eq_some_iff.1 hx
  unfold findS
  have e : ss = ss.take n ++ ss[n] :: ss.drop (n + 1) := by rw [← List.drop_eq_getElem_cons hk', List.take_append_drop]
  conv => lhs; rw [e]
  rw [List.find?_append, List.find?_eq_none.2 (by intro x h; rw [hb x h]; simp), List.find?_cons_of_pos (by simpa using hk)]
  rfl
theorem findS_none (ss : List SrcT) (k : Bs) (hb : ∀ x ∈ ss, (x.key == k) = false) : findS ss k = none := by
  unfold findS
  rw [List.find?_eq_none]
  intro x h; rw [hb x h]; simp
theorem kept5 {w wr : World} {v0 v1 v2 v3 v4 : Value} (h : Kept w wr) : Kept w (((((wr.setCell ⟨w.heap.size, 0, none⟩ v0).setCell ⟨w.heap.size, 1, none⟩ v1).setCell ⟨w.heap.size, 2, none⟩ v2).setCell ⟨w.heap.size, 3, none⟩ v3).setCell ⟨w.heap.size, 4, none⟩ v4) :=
  kept_set (kept_set (kept_set (kept_set (kept_set h _ _ _ (Nat.le_refl _)) _ _ _ (Nat.le_refl _)) _ _ _ (Nat.le_refl _)) _ _ _ (Nat.le_refl _)) _ _ _ (Nat.le_refl _)
theorem only_set {S : Nat → Prop} (w : World) (g o : Nat) (v : Value) (h : S g) : Only S w (w.setCell ⟨g, o, none⟩ v) := (Only.setCell g o v).mono (fun i _ e => e ▸ h)
theorem only5 {S : Nat → Prop} {w : World} {B : Nat} {v0 v1 v2 v3 v4 : Value} (h : S B) : Only S w (((((w.setCell ⟨B, 0, none⟩ v0).setCell ⟨B, 1, none⟩ v1).setCell ⟨B, 2, none⟩ v2).setCell ⟨B, 3, none⟩ v3).setCell ⟨B, 4, none⟩ v4) :=
  ((((only_set _ _ _ _ h).trans (only_set _ _ _ _ h)).trans (only_set _ _ _ _ h)).trans (only_set _ _ _ _ h)).trans (only_set _ _ _ _ h)
def FindPost (o : Option SrcT) (w : World) (e : Ending) (w' : World) : Prop :=
  ∃ vA vE vF, e = .returned (.tuple #[srcV (o.getD zeroS).key (o.getD zeroS).type vA vE vF, .bool o.isSome]) ∧ Perss w' vA (o.getD zeroS).author ∧ Perss w' vE (o.getD zeroS).editor ∧ Prs w' vF (o.getD zeroS).fields ∧ Kept w w'
set_option maxRecDepth 100000 in
set_option maxHeartbeats 3200000 in
theorem rfind_any (v : Value) (ss : List SrcT) (k : Bs) (w : World) (hv : Srcs w v ss) (hl : ss.length ≤ 1000000) :
    Calls Tryd.prog 34 #[v, .string (bs k)] w (FindPost (findS ss k) w) := by
  have HV := Lib.hid hv
  have HA := Lib.hid (findS_at ss k)
  have HNO := Lib.hid (findS_none ss k)
  obtain ⟨o, HO⟩ : ∃ o, Hid (findS ss k = o) := ⟨_, rfl⟩
  rw [HO.out] at HA HNO ⊢
  obtain ⟨a, c, rfl, hc, h3⟩ := hv
  clear h3
  unfold FindPost
  go_enter Tryd.func34, Tryd.ntmps34
  go_wp2_with fail
  go_loopw [10] (fun i wr => ∃ n : Nat, n ≤ ss.length ∧ i = .int .i64 n ∧ Hid (∀ x ∈ ss.take n, (x.key == k) = false) ∧ Hid (Blk wr w.heap.size 48 #[.string (bs []), .string (bs []), .slice none 0 0, .slice none 0 0, .slice none 0 0]) ∧ Hid (Kept w wr)) (fun i _ => ss.length - (intOf i).toNat)
  case atStart => exact ⟨0, Nat.zero_le _, rfl, fun x h => by simp at h, Blk.new w _ _, kept_alloc _ _⟩
  case round =>
    obtain ⟨n, hn, rfl, HN, HB, HKR⟩ := hrel
    have b0 : wr.cell? ⟨w.heap.size, 0, none⟩ = some (.string (bs [])) := HB.out.cell 0 _ rfl
    have b1 : wr.cell? ⟨w.heap.size, 1, none⟩ = some (.string (bs [])) := HB.out.cell 1 _ rfl
    have b2 : wr.cell? ⟨w.heap.size, 2, none⟩ = some (.slice none 0 0) := HB.out.cell 2 _ rfl
    have b3 : wr.cell? ⟨w.heap.size, 3, none⟩ = some (.slice none 0 0) := HB.out.cell 3 _ rfl
    have b4 : wr.cell? ⟨w.heap.size, 4, none⟩ = some (.slice none 0 0) := HB.out.cell 4 _ rfl
    have f0 := HB.out.free 0
    have f1 := HB.out.free 1
    have f2 := HB.out.free 2
    have f3 := HB.out.free 3
    have f4 := HB.out.free 4
    have z0 := HB.out.lt
    by_cases hlt : n < ss.length
    · obtain ⟨s, hx⟩ : ∃ x, ss[n]? = some x := ⟨_, List.getElem?_eq_getElem hlt⟩
      obtain ⟨a', c', hv', hc', h3⟩ := HV.out
      obtain ⟨rfl, hdead, rfl⟩ := Value.slice.inj hv'
      clear hdead hc'
      obtain ⟨g, o2, rfl, hg', hcc⟩ := h3 (by omega)
      obtain ⟨vA, vE, vF, t0, t1, t2, t3, t4, pA, pE, pF⟩ := hcc n s hx
      have d0 := (HKR.out.cell (p := ⟨g, _, none⟩) hg').trans t0
      have d1 := (HKR.out.cell (p := ⟨g, _, none⟩) hg').trans t1
      have d2 := (HKR.out.cell (p := ⟨g, _, none⟩) hg').trans t2
      have d3 := (HKR.out.cell (p := ⟨g, _, none⟩) hg').trans t3
      have d4 := (HKR.out.cell (p := ⟨g, _, none⟩) hg').trans t4
      clear t0 t1 t2 t3 t4
      have hg2 : g < wr.heap.size := Nat.lt_of_lt_of_le hg' HKR.out.size
      have HPS := Lib.hid (And.intro pA (And.intro pE pF))
      have HAT := Lib.hid (HA.out n s hx HN.out)
      obtain ⟨aA, cA, rfl, zA, zA'⟩ := pA
      obtain ⟨aE, cE, rfl, zE, zE'⟩ := pE
      obtain ⟨aF, cF, rfl, zF, zF'⟩ := pF
      clear zA zA' zE zE' zF zF'
      cases hxk : (s.key == k)
      · have HS : Hid (∀ x ∈ ss.take (n + 1), (x.key == k) = false) := by
          intro x hxm
          obtain ⟨hk', rfl⟩ := List.getElem?_eq_some_iff.1 hx
          rw [List.take_succ_eq_append_getElem hk'] at hxm
          rcases List.mem_append.1 hxm with h | h
          · exact HN.out x h
          · simp at h; subst h; exact hxk
        clear hcc h3 hv' hx HN HAT b0 b1 b2 b3 b4 f0 f1 f2 f3 f4 z0
        go_wp2_with fail
        go_roundw
        case rel => exact ⟨n + 1, by omega, by go_num, HS.out, HB.out.kept (kept_alloc _ _), HKR.out.trans (kept_alloc _ _)⟩
        case measure => simp [intOf]; omega
      · have HO2 := Lib.hid (HAT.out hxk)
        clear hcc h3 hv' hx HN HAT
        obtain rfl : s.key = k := by simpa using hxk
        clear hxk
        go_wp2_with fail
        have hK := (kept5 HKR.out (v0 := .string (bs s.key)) (v1 := .string (bs s.type)) (v2 := .slice aA s.author.length cA) (v3 := .slice aE s.editor.length cE) (v4 := .slice aF s.fields.length cF)).trans (kept_alloc _ (.cells #[.string (bs s.key), .string (bs s.type), .slice aA s.author.length cA, .slice aE s.editor.length cE, .slice aF s.fields.length cF] 48))
        refine bodyPost_ret (v := .tuple #[srcV s.key s.type (.slice aA s.author.length cA) (.slice aE s.editor.length cE) (.slice aF s.fields.length cF), .bool true]) (by simp [results, Tryd.results34, go_sem, b0, b1, b2, b3, b4, z0]) rfl ?_
        refine ⟨.slice aA s.author.length cA, .slice aE s.editor.length cE, .slice aF s.fields.length cF, by rw [HO2.out]; rfl, ?_, ?_, ?_, hK⟩
        · rw [HO2.out]; exact HPS.out.1.kept hK
        · rw [HO2.out]; exact HPS.out.2.1.kept hK
        · rw [HO2.out]; exact HPS.out.2.2.kept hK
    · have HE := Lib.hid (HNO.out (by have h := HN.out; rw [List.take_of_length_le (by omega)] at h; exact h))
      go_wp2_with fail
      have hK := kept5 HKR.out (v0 := .string (bs [])) (v1 := .string (bs [])) (v2 := .slice none 0 0) (v3 := .slice none 0 0) (v4 := .slice none 0 0)
      refine bodyPost_ret (v := .tuple #[srcV [] [] (.slice none 0 0) (.slice none 0 0) (.slice none 0 0), .bool false]) (by simp [results, Tryd.results34, go_sem, b0, b1, b2, b3, b4, z0]) rfl ?_
      refine ⟨.slice none 0 0, .slice none 0 0, .slice none 0 0, by rw [HE.out]; rfl, ?_, ?_, ?_, hK⟩
      · rw [HE.out]; exact Perss.none_ _
      · rw [HE.out]; exact Perss.none_ _
      · rw [HE.out]; exact Prs.none_ _
set_option maxRecDepth 100000 in
set_option maxHeartbeats 3200000 in
theorem find_any (v : Value) (ss : List SrcT) (k : Bs) (w : World) (hv : Srcs w v ss) (hl : ss.length ≤ 1000000) (hL : ∀ s ∈ ss, s.author.length ≤ 1000000 ∧ s.editor.length ≤ 1000000 ∧ s.fields.length ≤ 1000000) :
    Calls Tryd.prog 33 #[v, .string (bs k)] w (FindPost (findS ss k) w) := by
  have HV := Lib.hid hv
  have HA := Lib.hid (findS_at ss k)
  have HNO := Lib.hid (findS_none ss k)
  obtain ⟨o, HO⟩ : ∃ o, Hid (findS ss k = o) := ⟨_, rfl⟩
  rw [HO.out] at HA HNO ⊢
  obtain ⟨a, c, rfl, hc, h3⟩ := hv
  clear h3
  unfold FindPost
  go_enter Tryd.func33, Tryd.ntmps33
  go_wp2_with fail
  go_loopw [10] (fun i wr => ∃ n : Nat, n ≤ ss.length ∧ i = .int .i64 n ∧ Hid (∀ x ∈ ss.take n, (x.key == k) = false) ∧ Hid (Blk wr w.heap.size 48 #[.string (bs []), .string (bs []), .slice none 0 0, .slice none 0 0, .slice none 0 0]) ∧ Hid (Kept w wr)) (fun i _ => ss.length - (intOf i).toNat)
  case atStart => exact ⟨0, Nat.zero_le _, rfl, fun x h => by simp at h, Blk.new w _ _, kept_alloc _ _⟩
  case round =>
    obtain ⟨n, hn, rfl, HN, HB, HKR⟩ := hrel
    have b0 : wr.cell? ⟨w.heap.size, 0, none⟩ = some (.string (bs [])) := HB.out.cell 0 _ rfl
    have b1 : wr.cell? ⟨w.heap.size, 1, none⟩ = some (.string (bs [])) := HB.out.cell 1 _ rfl
    have b2 : wr.cell? ⟨w.heap.size, 2, none⟩ = some (.slice none 0 0) := HB.out.cell 2 _ rfl
    have b3 : wr.cell? ⟨w.heap.size, 3, none⟩ = some (.slice none 0 0) := HB.out.cell 3 _ rfl
    have b4 : wr.cell? ⟨w.heap.size, 4, none⟩ = some (.slice none 0 0) := HB.out.cell 4 _ rfl
    have f0 := HB.out.free 0
    have f1 := HB.out.free 1
    have f2 := HB.out.free 2
    have f3 := HB.out.free 3
    have f4 := HB.out.free 4
    have z0 := HB.out.lt
    by_cases hlt : n < ss.length
    · obtain ⟨s, hx⟩ : ∃ x, ss[n]? = some x := ⟨_, List.getElem?_eq_getElem hlt⟩
      obtain ⟨a', c', hv', hc', h3⟩ := HV.out
      obtain ⟨rfl, hdead, rfl⟩ := Value.slice.inj hv'
      clear hdead hc'
      obtain ⟨g, o2, rfl, hg', hcc⟩ := h3 (by omega)
      obtain ⟨vA, vE, vF, t0, t1, t2, t3, t4, pA, pE, pF⟩ := hcc n s hx
      have d0 := (HKR.out.cell (p := ⟨g, _, none⟩) hg').trans t0
      have d1 := (HKR.out.cell (p := ⟨g, _, none⟩) hg').trans t1
      have d2 := (HKR.out.cell (p := ⟨g, _, none⟩) hg').trans t2
      have d3 := (HKR.out.cell (p := ⟨g, _, none⟩) hg').trans t3
      have d4 := (HKR.out.cell (p := ⟨g, _, none⟩) hg').trans t4
      clear t0 t1 t2 t3 t4
      have hg2 : g < wr.heap.size := Nat.lt_of_lt_of_le hg' HKR.out.size
      have HL := Lib.hid (hL s (List.mem_of_getElem? hx))
      have HPS := Lib.hid (And.intro pA (And.intro pE pF))
      have HAT := Lib.hid (HA.out n s hx HN.out)
      obtain ⟨aA, cA, rfl, zA, zA'⟩ := pA
      obtain ⟨aE, cE, rfl, zE, zE'⟩ := pE
      obtain ⟨aF, cF, rfl, zF, zF'⟩ := pF
      clear zA zA' zE zE' zF zF'
      cases hxk : (s.key == k)
      · have HS : Hid (∀ x ∈ ss.take (n + 1), (x.key == k) = false) := by
          intro x hxm
          obtain ⟨hk', rfl⟩ := List.getElem?_eq_some_iff.1 hx
          rw [List.take_succ_eq_append_getElem hk'] at hxm
          rcases List.mem_append.1 hxm with h | h
          · exact HN.out x h
          · simp at h; subst h; exact hxk
        clear hcc h3 hv' hx HN HAT b0 b1 b2 b3 b4 f0 f1 f2 f3 f4 z0
        go_wp2_with fail
        go_roundw
        case rel => exact ⟨n + 1, by omega, by go_num, HS.out, HB.out.kept (kept_alloc _ _), HKR.out.trans (kept_alloc _ _)⟩
        case measure => simp [intOf]; omega
      · have HO2 := Lib.hid (HAT.out hxk)
        clear hcc h3 hv' hx HN HAT
        obtain rfl : s.key = k := by simpa using hxk
        clear hxk
        have HCA := Lib.hid (fun w h => cloneP_any (.slice aA s.author.length cA) s.author w h HL.out.1)
        have HCE := Lib.hid (fun w h => cloneP_any (.slice aE s.editor.length cE) s.editor w h HL.out.2.1)
        have HCF := Lib.hid (fun w h => cloneF_any (.slice aF s.fields.length cF) s.fields w h HL.out.2.2)
        have HBK := Lib.hid (Blk.new wr 48 #[.string (bs s.key), .string (bs s.type), .slice aA s.author.length cA, .slice aE s.editor.length cE, .slice aF s.fields.length cF])
        have HK0 := Lib.hid (HKR.out.trans (kept_alloc wr (.cells #[.string (bs s.key), .string (bs s.type), .slice aA s.author.length cA, .slice aE s.editor.length cE, .slice aF s.fields.length cF] 48)))
        have hwr : w.heap.size ≤ wr.heap.size := HKR.out.size
        go_wp2_with fail
        refine (HCA.out _ (HPS.out.1.kept HK0.out)).mono ?_
        rintro e w1 ⟨v1, rfl, hp1, hf1, hk1⟩
        have HP1 := Lib.hid hp1
        have HF1 : Hid (Fresh (wr.heap.size + 1) v1) := by show Fresh _ _; simpa using hf1
        have HB1 := Lib.hid (HBK.out.kept hk1)
        have HR1 := Lib.hid ((HB.out.kept (kept_alloc wr _)).kept hk1)
        have HK1 := Lib.hid (HK0.out.trans hk1)
        have HKA := Lib.hid (kept_set HK1.out wr.heap.size 2 v1 hwr)
        obtain ⟨a1, c1, rfl, y1, y2⟩ := hp1
        clear hk1 hf1 y1 y2 b0 b1 b2 b3 b4 f0 f1 f2 f3 f4 z0 d0 d1 d2 d3 d4 hg2 hg'
        have e2 : w1.cell? ⟨wr.heap.size, 2, none⟩ = some (.slice aA s.author.length cA) := HB1.out.cell 2 _ rfl
        have e3 : w1.cell? ⟨wr.heap.size, 3, none⟩ = some (.slice aE s.editor.length cE) := HB1.out.cell 3 _ rfl
        have f2 := HB1.out.free 2
        have z1 := HB1.out.lt
        go_wp2_with fail
        refine (HCE.out _ (HPS.out.2.1.kept HKA.out)).mono ?_
        rintro e w2 ⟨v2, rfl, hp2, hf2, hk2⟩
        have HP2 := Lib.hid hp2
        have HF2 : Hid (Fresh (wr.heap.size + 1) v2) := by
          show Fresh _ _
          intro g' o' n' c' he hn
          have := hf2 g' o' n' c' he hn
          rw [size_setCell] at this; omega
        have HB2 : Hid (Blk w2 wr.heap.size 48 #[.string (bs s.key), .string (bs s.type), .slice a1 s.author.length c1, .slice aE s.editor.length cE, .slice aF s.fields.length cF]) := (HB1.out.set 2 _).kept hk2
        have HR2 := Lib.hid ((HR1.out.other wr.heap.size 2 (.slice a1 s.author.length c1) (by have := HB.out.lt; omega)).kept hk2)
        have HO2A := Lib.hid ((only_set (S := fun i => i ≤ wr.heap.size) w1 wr.heap.size 2 (.slice a1 s.author.length c1) (Nat.le_refl _)).trans (Only.of_kept hk2))
        have HK2 := Lib.hid (HKA.out.trans hk2)
        have HKB := Lib.hid (kept_set HK2.out wr.heap.size 3 v2 hwr)
        obtain ⟨a2, c2, rfl, y1, y2⟩ := hp2
        clear hk2 hf2 y1 y2 e2 e3 f2 z1
        have e3 : w2.cell? ⟨wr.heap.size, 3, none⟩ = some (.slice aE s.editor.length cE) := HB2.out.cell 3 _ rfl
        have e4 : w2.cell? ⟨wr.heap.size, 4, none⟩ = some (.slice aF s.fields.length cF) := HB2.out.cell 4 _ rfl
        have f3 := HB2.out.free 3
        have z2 := HB2.out.lt
        go_wp2_with fail
        refine (HCF.out _ (HPS.out.2.2.kept HKB.out)).mono ?_
        rintro e w3 ⟨v3, rfl, hp3, hf3, hk3⟩
        have HP3 := Lib.hid hp3
        have HF3 : Hid (Fresh (wr.heap.size + 1) v3) := by
          show Fresh _ _
          intro g' o' n' c' he hn
          have := hf3 g' o' n' c' he hn
          rw [size_setCell] at this; omega
        have HB3 : Hid (Blk w3 wr.heap.size 48 #[.string (bs s.key), .string (bs s.type), .slice a1 s.author.length c1, .slice a2 s.editor.length c2, .slice aF s.fields.length cF]) := (HB2.out.set 3 _).kept hk3
        have HR3 := Lib.hid ((HR2.out.other wr.heap.size 3 (.slice a2 s.editor.length c2) (by have := HB.out.lt; omega)).kept hk3)
        have HO3A := Lib.hid ((only_set (S := fun i => i ≤ wr.heap.size) w2 wr.heap.size 3 (.slice a2 s.editor.length c2) (Nat.le_refl _)).trans (Only.of_kept hk3))
        have HK3 := Lib.hid (HKB.out.trans hk3)
        have HKC := Lib.hid (kept_set HK3.out wr.heap.size 4 v3 hwr)
        obtain ⟨a3, c3, rfl, y1, y2⟩ := hp3
        clear hk3 hf3 y1 y2 e3 e4 f3 z2
        have e0 : w3.cell? ⟨wr.heap.size, 0, none⟩ = some (.string (bs s.key)) := HB3.out.cell 0 _ rfl
        have e1 : w3.cell? ⟨wr.heap.size, 1, none⟩ = some (.string (bs s.type)) := HB3.out.cell 1 _ rfl
        have e2 : w3.cell? ⟨wr.heap.size, 2, none⟩ = some (.slice a1 s.author.length c1) := HB3.out.cell 2 _ rfl
        have e3 : w3.cell? ⟨wr.heap.size, 3, none⟩ = some (.slice a2 s.editor.length c2) := HB3.out.cell 3 _ rfl
        have e4 : w3.cell? ⟨wr.heap.size, 4, none⟩ = some (.slice aF s.fields.length cF) := HB3.out.cell 4 _ rfl
        have f4 := HB3.out.free 4
        have z3 := HB3.out.lt
        have b0 : w3.cell? ⟨w.heap.size, 0, none⟩ = some (.string (bs [])) := HR3.out.cell 0 _ rfl
        have b1 : w3.cell? ⟨w.heap.size, 1, none⟩ = some (.string (bs [])) := HR3.out.cell 1 _ rfl
        have b2 : w3.cell? ⟨w.heap.size, 2, none⟩ = some (.slice none 0 0) := HR3.out.cell 2 _ rfl
        have b3 : w3.cell? ⟨w.heap.size, 3, none⟩ = some (.slice none 0 0) := HR3.out.cell 3 _ rfl
        have b4 : w3.cell? ⟨w.heap.size, 4, none⟩ = some (.slice none 0 0) := HR3.out.cell 4 _ rfl
        have h0 := HR3.out.free 0
        have h1 := HR3.out.free 1
        have h2 := HR3.out.free 2
        have h3 := HR3.out.free 3
        have h4 := HR3.out.free 4
        have z4 := HR3.out.lt
        have hne : w.heap.size ≠ wr.heap.size := by have := HB.out.lt; omega
        go_wp2_with fail
        have HO4A := Lib.hid ((only_set (S := fun i => i ≤ wr.heap.size) w3 wr.heap.size 4 (.slice a3 s.fields.length c3) (Nat.le_refl _)).trans (only5 (B := w.heap.size) (v0 := .string (bs s.key)) (v1 := .string (bs s.type)) (v2 := .slice a1 s.author.length c1) (v3 := .slice a2 s.editor.length c2) (v4 := .slice a3 s.fields.length c3) hwr))
        have hK := kept5 HKC.out (v0 := .string (bs s.key)) (v1 := .string (bs s.type)) (v2 := .slice a1 s.author.length c1) (v3 := .slice a2 s.editor.length c2) (v4 := .slice a3 s.fields.length c3)
        refine bodyPost_ret (v := .tuple #[srcV s.key s.type (.slice a1 s.author.length c1) (.slice a2 s.editor.length c2) (.slice a3 s.fields.length c3), .bool true]) (by simp [results, Tryd.results33, go_sem, b0, b1, b2, b3, b4, z4, hne]) rfl ?_
        refine ⟨.slice a1 s.author.length c1, .slice a2 s.editor.length c2, .slice a3 s.fields.length c3, by rw [HO2.out]; rfl, ?_, ?_, ?_, hK⟩
        · rw [HO2.out]; exact HP1.out.away HF1.out ((HO2A.out.trans HO3A.out).trans HO4A.out) (fun i h => by omega)
        · rw [HO2.out]; exact HP2.out.away HF2.out (HO3A.out.trans HO4A.out) (fun i h => by omega)
        · rw [HO2.out]; exact HP3.out.away HF3.out HO4A.out (fun i h => by omega)
    · have HE := Lib.hid (HNO.out (by have h := HN.out; rw [List.take_of_length_le (by omega)] at h; exact h))
      go_wp2_with fail
      have hK := kept5 HKR.out (v0 := .string (bs [])) (v1 := .string (bs [])) (v2 := .slice none 0 0) (v3 := .slice none 0 0) (v4 := .slice none 0 0)
      refine bodyPost_ret (v := .tuple #[srcV [] [] (.slice none 0 0) (.slice none 0 0) (.slice none 0 0), .bool false]) (by simp [results, Tryd.results33, go_sem, b0, b1, b2, b3, b4, z0]) rfl ?_
      refine ⟨.slice none 0 0, .slice none 0 0, .slice none 0 0, by rw [HE.out]; rfl, ?_, ?_, ?_, hK⟩
      · rw [HE.out]; exact Perss.none_ _
      · rw [HE.out]; exact Perss.none_ _
      · rw [HE.out]; exact Prs.none_ _
end Go.Proofs.YtflpkadknljpbaaDoor
