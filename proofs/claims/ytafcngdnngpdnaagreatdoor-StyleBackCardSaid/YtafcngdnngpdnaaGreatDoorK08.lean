/- line and small of style. Conditions: lengths. -/
import Derived.Test.YtafcngdnngpdnaaGreatDoorK07
import Derived.Test.YtafcngdnngpdnaaGreatDoorK05
import Derived.Test.YtafcngdnngpdnaaGreatDoorK01
import Derived.Test.YtafcngdnngpdnaaGreatDoorK02

set_option linter.all false
namespace Go.Proofs.YtafcngdnngpdnaaGreatDoor
open Go.RowKit

set_option maxRecDepth 100000 in
set_option maxHeartbeats 1600000 in
theorem sline_any (l : Bs) (w : World) (hl : l.length ≤ 1000000000) : Calls Tryz.prog 39 #[.string (bs l)] w fun e w' => e = .returned (.bool (lnB l)) ∧ Kept w w' := by
  have HV := Lib.hid (fun w => valid_any (bs l) w (by simpa using hl))
  have HC := Lib.hid (fun w => Tryz.strings_Contains_one (bs l) 10 w)
  simp only [bs_data] at HC
  have HCC : Hid (decide (0 ≤ Lib.indexByte l 10) = List.contains l 10) := indexByte_contains 10 l
  have HL : Hid (lnB l = (validB (bs l) && !l.contains 10)) := rfl
  generalize lnB l = R at *
  generalize validB (bs l) = V at *
  generalize List.contains l 10 = C at *
  go_enter Tryz.func39, Tryz.ntmps39
  go_wp2_with fail
  refine (HV.out _).mono ?_
  rintro e w1 ⟨rfl, n, rfl⟩
  cases V with
  | false =>
    go_wp2_with fail
    go_ret
    exact ⟨ret_bool (by rw [HL.out]; rfl), kept_drewN _ _⟩
  | true =>
    go_wp2_with fail
    refine (HC.out _).mono ?_
    rintro e w2 ⟨rfl, rfl⟩
    go_wp2_with fail
    go_ret
    exact ⟨ret_bool (by rw [HL.out, ← HCC.out, Bool.true_and]; exact congrArg not (decide_eq_decide.2 Iff.rfl)), kept_drewN _ _⟩
theorem smallB_zero (most : Int) (more : Bs) : smallB [] most more = false := rfl
set_option maxRecDepth 100000 in
set_option maxHeartbeats 1600000 in
theorem ssmall_any (l more : Bs) (most : Int) (w : World) (hl : l.length ≤ 1000000000) : Calls Tryz.prog 36 #[.string (bs l), .int .i64 most, .string (bs more)] w fun e w' => e = .returned (.bool (smallB l most more)) ∧ Kept w w' := by
  have HX := Lib.hid (fun c w => Tryz.strings_IndexByte (bs more) c w)
  simp only [bs_data] at HX
  have HF : Hid (∀ k (hk : k < l.length), lowB l[k] = false → more.contains l[k] = false → smallB l most more = false) := by
    intro k hk h1 h2
    unfold smallB
    have : (l.all fun b => lowB b || more.contains b) = false := List.all_eq_false.2 ⟨l[k], List.getElem_mem hk, by rw [h1, h2]; simp⟩
    rw [this]; simp
  have HT : Hid ((∀ k (hk : k < l.length), lowB l[k] = true ∨ more.contains l[k] = true) → smallB l most more = (decide (1 ≤ l.length) && decide ((l.length : Int) ≤ most))) := by
    intro h
    unfold smallB
    have : (l.all fun b => lowB b || more.contains b) = true := List.all_eq_true.2 (fun b hb => by
      obtain ⟨k, hk, e⟩ := List.getElem_of_mem hb
      have := h k hk
      rw [e] at this
      rcases this with q | q <;> rw [q] <;> simp)
    rw [this]; simp
  by_cases h0 : l = []
  · subst h0
    go_enter Tryz.func36, Tryz.ntmps36
    go_wp2_with fail
    go_ret
    exact ⟨rfl, Kept.refl _⟩
  have h0' : (l == ([] : Bs)) = false := by simpa using h0
  have hl0 : 1 ≤ l.length := by cases l <;> simp at h0 ⊢
  by_cases h1 : most < (l.length : Int)
  · have HE : Hid (smallB l most more = false) := by
      show _ = _
      unfold smallB
      rw [decide_eq_false (show ¬ (l.length : Int) ≤ most by omega)]; simp
    obtain ⟨R, HR⟩ : ∃ R, Hid (smallB l most more = R) := ⟨_, rfl⟩
    rw [HR.out] at HE ⊢
    go_enter Tryz.func36, Tryz.ntmps36
    go_wp2_with fail
    go_ret
    exact ⟨ret_bool HE.out.symm, Kept.refl _⟩
  have HE : Hid ((∀ k (hk : k < l.length), lowB l[k] = true ∨ more.contains l[k] = true) → smallB l most more = true) := by
    intro h
    rw [HT.out h, decide_eq_true hl0, decide_eq_true (show (l.length : Int) ≤ most by omega)]; rfl
  obtain ⟨R, HR⟩ : ∃ R, Hid (smallB l most more = R) := ⟨_, rfl⟩
  rw [HR.out] at HE HF ⊢
  clear HT HR hl0
  go_enter Tryz.func36, Tryz.ntmps36
  go_wp2_with fail
  go_loop [18] (fun i => ∃ k : Nat, k ≤ l.length ∧ i = .int .i64 k ∧ Hid (∀ j (hj : j < l.length), j < k → lowB l[j] = true ∨ more.contains l[j] = true)) (fun i => l.length - (intOf i).toNat)
  case atStart => exact ⟨0, Nat.zero_le _, rfl, fun j hj h => by omega⟩
  case round =>
    obtain ⟨k, hk, rfl, HN⟩ := hrel
    by_cases hlt : k < l.length
    · have i0 := run_ix (P := Tryz.prog) (t := 9) Tryz.underlying9 l k hlt k rfl
      have h8 := at8_lo l k
      have HB : Hid (at8 l k = (l[k].toNat : Int)) := at8_get l k hlt
      have HLO : Hid (lowB l[k] = (decide (97 ≤ at8 l k) && decide (at8 l k ≤ 122))) := by
        show _ = _
        rw [at8_get l k hlt]; rfl
      have HIX : Hid (decide (0 ≤ Lib.indexByte more (at8 l k).toNat.toUInt8) = more.contains l[k]) := by
        show _ = _
        rw [HB.out, Int.toNat_natCast, show (l[k].toNat).toUInt8 = l[k] from by simp, indexByte_contains]
      have HFK := Lib.hid (HF.out k hlt)
      have HNK : Hid ((lowB l[k] = true ∨ more.contains l[k] = true) → ∀ j (hj : j < l.length), j < k + 1 → lowB l[j] = true ∨ more.contains l[j] = true) := by
        intro h j hj hjk
        rcases Nat.lt_or_ge j k with q | q
        · exact HN.out j hj q
        · obtain rfl : j = k := by omega
          exact h
      have hge := Lib.indexByte_ge more (at8 l k).toNat.toUInt8
      have HXK := Lib.hid (fun w => HX.out (at8 l k) w)
      by_cases hlow : 97 ≤ at8 l k ∧ at8 l k ≤ 122
      · obtain ⟨q1, q2⟩ := hlow
        have HS := Lib.hid (HNK.out (.inl (by rw [HLO.out, decide_eq_true q1, decide_eq_true q2]; rfl)))
        have b1 : ¬ at8 l k < 97 := by omega
        have b2 : ¬ 122 < at8 l k := by omega
        generalize at8 l k = b at *
        clear HNK HFK HXK HIX hge q1 q2 HLO HB
        go_wp2_with fail
        go_round
        case rel => exact ⟨k + 1, by omega, by go_num, HS.out⟩
        case measure => simp [intOf]; omega
      · have HLF : Hid (lowB l[k] = false) := by
          show _ = _
          rw [HLO.out, Bool.and_eq_false_iff, decide_eq_false_iff_not, decide_eq_false_iff_not]
          omega
        have hlow' : at8 l k < 97 ∨ 122 < at8 l k := by omega
        generalize Lib.indexByte more (at8 l k).toNat.toUInt8 = r at *
        by_cases hr : 0 ≤ r
        · have HS := Lib.hid (HNK.out (.inr (by rw [← HIX.out]; exact decide_eq_true hr)))
          have hr' : ¬ r < 0 := by omega
          generalize at8 l k = b at *
          clear HNK HFK HIX HLO HB HLF hlow
          by_cases q1 : b < 97
          · clear hlow'
            go_wp2_with fail
            refine (HXK.out _).mono ?_
            rintro e w2 ⟨rfl, rfl⟩
            go_wp2_with fail
            go_round
            case rel => exact ⟨k + 1, by omega, by go_num, HS.out⟩
            case measure => simp [intOf]; omega
          · have q2 : 122 < b := by omega
            clear hlow'
            go_wp2_with fail
            refine (HXK.out _).mono ?_
            rintro e w2 ⟨rfl, rfl⟩
            go_wp2_with fail
            go_round
            case rel => exact ⟨k + 1, by omega, by go_num, HS.out⟩
            case measure => simp [intOf]; omega
        · have HR := Lib.hid (HFK.out HLF.out (by rw [← HIX.out]; exact decide_eq_false hr))
          have hr' : r < 0 := by omega
          generalize at8 l k = b at *
          clear HNK HFK HIX HLO HB HLF hlow
          by_cases q1 : b < 97
          · clear hlow'
            go_wp2_with fail
            refine (HXK.out _).mono ?_
            rintro e w2 ⟨rfl, rfl⟩
            go_wp2_with fail
            go_ret
            exact ⟨ret_bool HR.out.symm, Kept.refl _⟩
          · have q2 : 122 < b := by omega
            clear hlow'
            go_wp2_with fail
            refine (HXK.out _).mono ?_
            rintro e w2 ⟨rfl, rfl⟩
            go_wp2_with fail
            go_ret
            exact ⟨ret_bool HR.out.symm, Kept.refl _⟩
    · obtain rfl : k = l.length := by omega
      have HR := Lib.hid (HE.out (fun k hk => HN.out k hk hk))
      go_wp2_with fail
      go_ret
      exact ⟨ret_bool HR.out.symm, Kept.refl _⟩
end Go.Proofs.YtafcngdnngpdnaaGreatDoor

/- Worlds that differ at some blocks alone. No condition. -/
set_option linter.all false
namespace Go.Proofs.YtafcngdnngpdnaaGreatDoor
open Go.RowKit

/-- Every block that was there is as it was, but for those of S. -/
structure Only (S : Nat → Prop) (w w' : World) : Prop where
  os : w'.os = w.os
  tape : w'.tape = w.tape
  output : w'.output = w.output
  size : w.heap.size ≤ w'.heap.size
  block : ∀ k, k < w.heap.size → ¬ S k → w'.heap[k]? = w.heap[k]?
theorem Only.of_kept {S : Nat → Prop} {w w' : World} (h : Kept w w') : Only S w w' := ⟨h.os, h.tape, h.output, h.size, fun k hk _ => h.block k hk⟩
theorem Only.trans {S : Nat → Prop} {a b c : World} (h : Only S a b) (k : Only S b c) : Only S a c :=
  ⟨k.os.trans h.os, k.tape.trans h.tape, k.output.trans h.output, Nat.le_trans h.size k.size, fun i hi hs => (k.block i (Nat.lt_of_lt_of_le hi h.size) hs).trans (h.block i hi hs)⟩
theorem Only.mono {S S' : Nat → Prop} {w w' : World} (h : Only S w w') (k : ∀ i, i < w.heap.size → S i → S' i) : Only S' w w' :=
  ⟨h.os, h.tape, h.output, h.size, fun i hi hs => h.block i hi (fun q => hs (k i hi q))⟩
theorem Only.kept_trans {S : Nat → Prop} {a b c : World} (h : Kept a b) (k : Only S b c) : Only S a c := (Only.of_kept h).trans k
theorem Only.grown {w w' : World} {row : Option Nat} (h : w.grownBy w' row) : Only (fun i => some i = row) w w' := ⟨h.os, h.tape, h.output, h.size, fun k hk hs => h.block k hk hs⟩
theorem Only.setCell {w : World} (g o : Nat) (v : Value) : Only (fun i => i = g) w (w.setCell ⟨g, o, none⟩ v) :=
  ⟨rfl, rfl, rfl, by simp [World.setCell], fun k hk hs => by simp [World.setCell, Array.getElem?_modify, Ne.symm hs]⟩
theorem Only.below {S : Nat → Prop} {w w' : World} {B : Nat} (h : Only S w w') (hB : B ≤ w.heap.size) (hS : ∀ i, S i → B ≤ i) : Below B w w' :=
  ⟨h.os, h.tape, h.output, h.size, fun k hk => h.block k (by omega) (fun q => by have := hS k q; omega)⟩
theorem Only.cell {S : Nat → Prop} {w w' : World} (h : Only S w w') (g o : Nat) (hg : g < w.heap.size) (hs : ¬ S g) : w'.cell? ⟨g, o, none⟩ = w.cell? ⟨g, o, none⟩ := World.cell?_of_block (a := ⟨g, o, none⟩) (h.block g hg hs)
theorem Only.own {S : Nat → Prop} {w w' : World} {base : Nat} {e : TypeId} {size : Nat} {v : Value} {n : Nat} {xs : List Value} (h : Only S w w') (ho : w.ownsRow base e size v n xs) (hs : ∀ g, v.ownBlock = some g → ¬ S g) : w'.ownsRow base e size v n xs := by
  obtain ⟨h1, h2⟩ := ho
  refine ⟨h1, ?_⟩
  rcases h2 with h2 | ⟨g, cap, cur, hv, hg, hh, r⟩
  · exact .inl h2
  · have hlt : g < w.heap.size := by
      rcases Nat.lt_or_ge g w.heap.size with q | q
      · exact q
      · rw [Array.getElem?_eq_none q] at hh; cases hh
    exact .inr ⟨g, cap, cur, hv, hg, by rw [h.block g hlt (hs g (by rw [hv]; rfl))]; exact hh, r⟩
end Go.Proofs.YtafcngdnngpdnaaGreatDoor

/- Maps in memory whose keys are whole numbers: look-up, a key that is new, a key that is put again. No condition. -/
set_option linter.all false
namespace Go.Proofs.YtafcngdnngpdnaaGreatDoor
open Go.RowKit

def entV (e : Int × Value) (i : Nat) : MapEntry := { key := .int .i64 e.1, val := e.2, born := i }
def entsV (es : List (Int × Value)) : Array MapEntry := (es.mapIdx fun i e => entV e i).toArray
/-- Block m is the map of the entries es. -/
def MapV (w : World) (m : Nat) (es : List (Int × Value)) : Prop := w.heap[m]? = some (.map (entsV es) es.length)
/-- The world with other entries in block m. -/
def putV (w : World) (m : Nat) (es : List (Int × Value)) : World := { w with heap := w.heap.setIfInBounds m (.map (entsV es) es.length) }
def getV (es : List (Int × Value)) (k : Int) : Option Value := (es.find? fun e => e.1 == k).map (·.2)
theorem MapV.lt {w : World} {m : Nat} {es : List (Int × Value)} (h : MapV w m es) : m < w.heap.size := by
  rcases Nat.lt_or_ge m w.heap.size with q | q
  · exact q
  · unfold MapV at h; rw [Array.getElem?_eq_none q] at h; cases h
theorem MapV.only {S : Nat → Prop} {w w' : World} {m : Nat} {es : List (Int × Value)} (h : MapV w m es) (k : Only S w w') (hs : ¬ S m) : MapV w' m es := by
  unfold MapV at h ⊢; rw [k.block m (MapV.lt h) hs]; exact h
theorem MapV.kept {w w' : World} {m : Nat} {es : List (Int × Value)} (h : MapV w m es) (k : Kept w w') : MapV w' m es := h.only (Only.of_kept (S := fun _ => False) k) (fun q => q)
theorem MapV.made (w : World) : MapV (w.alloc (.map #[] 0)) w.heap.size [] := heap_alloc_new w _
theorem putV_map (w : World) (m : Nat) (es : List (Int × Value)) (hm : m < w.heap.size) : MapV (putV w m es) m es := by
  unfold MapV putV; simp [hm]
theorem putV_only (w : World) (m : Nat) (es : List (Int × Value)) : Only (fun i => i = m) w (putV w m es) :=
  ⟨rfl, rfl, rfl, by simp [putV], fun k hk hs => by simp [putV, Array.getElem?_setIfInBounds, Ne.symm hs]⟩
theorem putV_size (w : World) (m : Nat) (es : List (Int × Value)) : (putV w m es).heap.size = w.heap.size := by simp [putV]
theorem entsV_snoc (es : List (Int × Value)) (e : Int × Value) : entsV (es ++ [e]) = (entsV es).push (entV e es.length) := by
  unfold entsV; rw [List.mapIdx_append]; simp
theorem entsV_list (es : List (Int × Value)) : (entsV es).toList = es.mapIdx fun i e => entV e (i + 0) := by simp [entsV]
theorem getV_cons (e : Int × Value) (es : List (Int × Value)) (k : Int) : getV (e :: es) k = if e.1 = k then some e.2 else getV es k := by
  unfold getV
  rw [List.find?_cons]
  by_cases h : e.1 = k
  · rw [if_pos h]; simp [h]
  · rw [if_neg h]
    have : (e.1 == k) = false := by simpa using h
    rw [this]
theorem findV {kd : IntKind} (k : Int) : ∀ (l : List (Int × Value)) (i j : Nat),
    (getV l k = none ∧ Instr.findNow (.int kd) (.int .i64 k) (l.mapIdx fun i' e => entV e (i' + i)) j = some none) ∨
    (∃ (n : Nat) (v : Value), getV l k = some v ∧ l[n]? = some (k, v) ∧ Instr.findNow (.int kd) (.int .i64 k) (l.mapIdx fun i' e => entV e (i' + i)) j = some (some (n + j, v)))
  | [], _, _ => .inl ⟨rfl, rfl⟩
  | e :: l, i, j => by
    rw [List.mapIdx_cons, getV_cons]
    unfold Instr.findNow
    by_cases h : e.1 = k
    · right
      refine ⟨0, e.2, by rw [if_pos h], by rw [← h]; rfl, ?_⟩
      simp [entV, Instr.sameNow, h]
    · have hx : (k == e.1) = false := by rw [beq_eq_false_iff_ne]; exact fun q => h q.symm
      have hm : (l.mapIdx fun i' x => entV x (i' + 1 + i)) = l.mapIdx fun i' x => entV x (i' + (i + 1)) := by
        congr 1; funext a b; congr 1; omega
      rw [if_neg h]
      simp only [entV, Instr.sameNow, hx, if_true] at hm ⊢
      rcases findV (kd := kd) k l (i + 1) (j + 1) with ⟨g1, g2⟩ | ⟨n, v, g1, g2, g3⟩
      · left
        simp only [entV] at g2
        rw [hm]
        exact ⟨g1, g2⟩
      · right
        simp only [entV] at g3
        rw [hm]
        exact ⟨n + 1, v, g1, by simpa using g2, by rw [g3]; congr 3; omega⟩
section
variable {P : Program} {tm ti te : TypeId}
theorem check_int (hi : P.underlying ti = some (.int .i64)) (e : Bool) (k : Int) (w : World) : (Instr.checkKey e 10000 ti (.int .i64 k)).run P w = .ok () w := by
  unfold Instr.checkKey
  simp only [Sem.run_bind, run_underlying hi, Result.andThen]
  rfl
theorem runV (hi : P.underlying ti = some (.int .i64)) (w : World) (es : List (Int × Value)) (k : Int) :
    (getV es k = none ∧ (Instr.findKey ti (.int .i64 k) (entsV es).toList).run P w = .ok none w) ∨
    (∃ n v, getV es k = some v ∧ es[n]? = some (k, v) ∧ (Instr.findKey ti (.int .i64 k) (entsV es).toList).run P w = .ok (some (n, v)) w) := by
  rcases findV (kd := .i64) k es 0 0 with ⟨g1, g2⟩ | ⟨n, v, g1, g2, g3⟩
  · left
    refine ⟨g1, ?_⟩
    unfold Instr.findKey
    simp only [Sem.run_bind, run_underlying hi, Result.andThen, entsV_list, g2]
    simp [Sem.run_pure]
  · right
    refine ⟨n, v, g1, g2, ?_⟩
    unfold Instr.findKey
    simp only [Sem.run_bind, run_underlying hi, Result.andThen, entsV_list, g3]
    simp [Sem.run_pure]
/-- A look-up; z is what the map gives for a key that it has not. -/
theorem lookV (hm : P.underlying tm = some (.map ti te)) (hi : P.underlying ti = some (.int .i64)) (w : World) (m : Nat) (es : List (Int × Value)) (k : Int) (z : Value) (hz : (zeroValue te).run P w = .ok z w) (h : MapV w m es) :
    (Instr.lookup tm (.map (some m)) (.int .i64 k) false).run P w = .ok ((getV es k).getD z) w := by
  unfold MapV at h
  unfold Instr.lookup
  simp only [Sem.run_bind, run_underlying hm, Result.andThen]
  rcases runV hi w es k with ⟨g1, g2⟩ | ⟨n, v, g1, _, g3⟩
  · simp only [getObj, Sem.run_bind, Sem.run, h, Result.andThen, Sem.run_pure, check_int hi, g2, g1, hz]
    simp [Sem.run_pure]
  · simp only [getObj, Sem.run_bind, Sem.run, h, Result.andThen, Sem.run_pure, check_int hi, g3, g1]
    simp [Sem.run_pure]
theorem lookV_ok (hm : P.underlying tm = some (.map ti te)) (hi : P.underlying ti = some (.int .i64)) (w : World) (m : Nat) (es : List (Int × Value)) (k : Int) (z : Value) (hz : (zeroValue te).run P w = .ok z w) (h : MapV w m es) :
    (Instr.lookup tm (.map (some m)) (.int .i64 k) true).run P w = .ok (.tuple #[(getV es k).getD z, .bool (getV es k).isSome]) w := by
  unfold MapV at h
  unfold Instr.lookup
  simp only [Sem.run_bind, run_underlying hm, Result.andThen]
  rcases runV hi w es k with ⟨g1, g2⟩ | ⟨n, v, g1, _, g3⟩
  · simp only [getObj, Sem.run_bind, Sem.run, h, Result.andThen, Sem.run_pure, check_int hi, g2, g1, hz]
    simp [Sem.run_pure]
  · simp only [getObj, Sem.run_bind, Sem.run, h, Result.andThen, Sem.run_pure, check_int hi, g3, g1]
    simp [Sem.run_pure]
theorem insV (hm : P.underlying tm = some (.map ti te)) (hi : P.underlying ti = some (.int .i64)) (w : World) (m : Nat) (es : List (Int × Value)) (k : Int) (v : Value) (h : MapV w m es) (hk : getV es k = none) :
    (Instr.mapUpdate tm (.map (some m)) (.int .i64 k) v).run P w = .ok () (putV w m (es ++ [(k, v)])) := by
  unfold MapV at h
  unfold Instr.mapUpdate
  simp only [Sem.run_bind, run_underlying hm, Result.andThen]
  rcases runV hi w es k with ⟨g1, g2⟩ | ⟨n, v', g1, _, _⟩
  · simp only [getObj, Sem.run_bind, Sem.run, h, Result.andThen, Sem.run_pure, check_int hi, g2, setObj]
    refine congrArg (Result.ok ()) ?_
    unfold putV
    rw [entsV_snoc]
    simp [entV]
  · rw [hk] at g1; cases g1
theorem same_int (k : Int) (w : World) : (Instr.keyThatStays (.int .i64 k) (.int .i64 k)).run P w = .ok (.int .i64 k) w := by
  unfold Instr.keyThatStays
  have e : Instr.sameBits 10000 (.int .i64 k) (.int .i64 k) = true := by
    unfold Instr.sameBits; simp
  rw [e]; rfl
theorem entsV_same (es : List (Int × Value)) (n : Nat) (k : Int) (v : Value) (h : es[n]? = some (k, v)) : ((entsV es).modify n fun e => { e with key := .int .i64 k, val := v }) = entsV es := by
  apply Array.ext_getElem?
  intro i
  rw [Array.getElem?_modify]
  by_cases q : n = i
  · subst q
    rw [if_pos rfl]
    unfold entsV
    simp [h, entV]
  · rw [if_neg q]
theorem entsV_key (es : List (Int × Value)) (n : Nat) (k : Int) (v : Value) (h : es[n]? = some (k, v)) : (entsV es)[n]? = some (entV (k, v) n) := by
  unfold entsV
  simp [h]
/-- A key is put again with what it had. -/
theorem againV (hm : P.underlying tm = some (.map ti te)) (hi : P.underlying ti = some (.int .i64)) (w : World) (m : Nat) (es : List (Int × Value)) (k : Int) (v : Value) (h : MapV w m es) (hk : getV es k = some v) :
    (Instr.mapUpdate tm (.map (some m)) (.int .i64 k) v).run P w = .ok () (putV w m es) := by
  unfold MapV at h
  unfold Instr.mapUpdate
  simp only [Sem.run_bind, run_underlying hm, Result.andThen]
  rcases runV hi w es k with ⟨g1, _⟩ | ⟨n, v', g1, g2, g3⟩
  · rw [hk] at g1; cases g1
  · rw [hk] at g1
    cases g1
    have e1 := entsV_key es n k v g2
    simp only [getObj, Sem.run_bind, Sem.run, h, Result.andThen, Sem.run_pure, check_int hi, g3, setObj, e1, Option.map_some, Option.getD_some, entV, same_int]
    refine congrArg (Result.ok ()) ?_
    unfold putV
    have e2 := entsV_same es n k v g2
    first | rw [e2] | (trace_state; rfl)
end
end Go.Proofs.YtafcngdnngpdnaaGreatDoor
