/- A style in memory; checkCite of style. Conditions: lengths. -/
import Derived.Test.YtafcngdnngpdnaaGreatDoorK10
import Derived.Test.YtafcngdnngpdnaaGreatDoorK14
import Derived.Test.YtafcngdnngpdnaaGreatDoorK07
import Derived.Test.YtafcngdnngpdnaaGreatDoorK12

set_option linter.all false
namespace Go.Proofs.YtafcngdnngpdnaaGreatDoor
open Go.RowKit

structure StyT where
  name : Bs
  numeric : Bool
  sort : Bs
  cite : Bs
  bare : Bs
  between : Bs
  begin_ : Bs
  end_ : Bs
  most : Int
  entries : List Pr
def styCells (vE : Value) (y : StyT) : Array Value := #[.string (bs y.name), .bool y.numeric, .string (bs y.sort), .string (bs y.cite), .string (bs y.bare), .string (bs y.between), .string (bs y.begin_), .string (bs y.end_), .int .i64 y.most, vE]
def styV (vE : Value) (y : StyT) : Value := .agg (styCells vE y)
def kSuffix : Bs := [115, 117, 102, 102, 105, 120]
def kNumber : Bs := [110, 117, 109, 98, 101, 114]
def citE (y : StyT) : Int := if splE y.cite ≠ 0 then splE y.cite else if freeB (splL y.cite) (if y.numeric = true then kNumber else kSuffix) = false then 8 else splE y.bare
def SmallY (y : StyT) : Prop := y.name.length ≤ 100000 ∧ y.sort.length ≤ 100000 ∧ y.cite.length ≤ 100000 ∧ y.bare.length ≤ 100000 ∧ y.between.length ≤ 100000 ∧ y.begin_.length ≤ 100000 ∧ y.end_.length ≤ 100000 ∧ y.entries.length ≤ 10000 ∧ ∀ p ∈ y.entries, p.1.length ≤ 100000 ∧ p.2.length ≤ 100000
theorem splP_len : ∀ (f : Nat) (r : Bs) (G g : Nat) (l : List Pc), splP f r G g = some l → l.length ≤ r.length
  | 0, _, _, _, _, h => by cases h
  | f + 1, [], G, g, l, h => by
    rw [splP_end] at h
    split at h
    · cases h; simp
    · cases h
  | f + 1, b :: r, G, g, l, h => by
    cases hin : inSet spSet b with
    | false =>
      rw [splP_run _ _ _ hin, Option.map_eq_some_iff] at h
      obtain ⟨l', h1, rfl⟩ := h
      have := splP_len f _ G g l' h1
      rw [List.length_drop] at this
      rcases runN_pos (r := r) hin with ⟨_, hn⟩ | ⟨k, _, hn, hk, hkl⟩
      · rw [hn] at this; simp only [List.length_cons] at this ⊢; omega
      · rw [hn] at this; simp only [List.length_cons] at this ⊢; omega
    | true =>
      rcases spSet_cases hin with rfl | rfl | rfl | rfl
      · rw [splP_fld] at h
        split at h
        · rw [Option.map_eq_some_iff] at h
          obtain ⟨l', h1, rfl⟩ := h
          have := splP_len f _ G g l' h1
          rw [List.length_drop] at this
          simp; omega
        · cases h
      · rw [splP_bad] at h; cases h
      · rw [splP_open] at h
        split at h
        · have := splP_len f _ _ _ l h
          simp; omega
        · cases h
      · rw [splP_shut] at h
        split at h
        · cases h
        · have := splP_len f _ _ _ l h
          simp; omega
theorem splL_len (t : Bs) : (splL t).length ≤ t.length := by
  unfold splL
  split
  · unfold splT
    cases h : splP (t.length + 1) t 0 0 with
    | none => simp
    | some l => exact splP_len _ t 0 0 l h
  · simp
set_option maxRecDepth 100000 in
set_option maxHeartbeats 3200000 in
theorem scite_any (vE : Value) (y : StyT) (w : World) (hg : Gnd w) (hs : SmallY y) : Calls Tryz.prog 38 #[styV vE y] w fun e w' => e = .returned (.int .i64 (citE y)) ∧ Kept w w' := by
  have HG := Lib.hid hg
  obtain ⟨-, -, s3, s4, -⟩ := hs
  have HC := Lib.hid (fun w h => ssplit_any y.cite w h s3)
  have HB := Lib.hid (fun w h => ssplit_any y.bare w h s4)
  have hln := splL_len y.cite
  have HF := Lib.hid (fun v k w h => sfree_any v (splL y.cite) k w h (by omega))
  have HE : Hid (citE y = if splE y.cite ≠ 0 then splE y.cite else if freeB (splL y.cite) (if y.numeric = true then kNumber else kSuffix) = false then 8 else splE y.bare) := rfl
  unfold SplitP at HC HB
  generalize citE y = R at *
  generalize splE y.cite = E1 at *
  generalize splE y.bare = E2 at *
  generalize splL y.cite = L at *
  clear hg
  unfold styV styCells
  have HK0 := Lib.hid (kept_alloc w (.cells (styCells vE y) 24))
  have HB0 := Lib.hid (Blk.new w 24 (styCells vE y))
  unfold styCells at HK0 HB0
  go_enter Tryz.func38, Tryz.ntmps38
  go_wp2_with fail
  generalize w.alloc _ = w0 at *
  generalize w.heap.size = B at *
  refine (HC.out _ (HG.out.kept HK0.out)).mono ?_
  rintro e w1 ⟨v1, rfl, hp1, hk1⟩
  have HP1 := Lib.hid hp1
  have HK1 := Lib.hid (HK0.out.trans hk1)
  have HB1 := Lib.hid (HB0.out.kept hk1)
  obtain ⟨a1, c1, rfl, -⟩ := hp1.form
  clear hk1 hp1 HC
  by_cases h1 : E1 = 0
  case neg =>
    rw [if_pos h1] at HE
    have h1' : (E1 == 0) = false := by simpa using h1
    go_wp2_with fail
    go_ret
    exact ⟨ret_int HE.out.symm, HK1.out⟩
  subst h1
  rw [if_neg (by simp)] at HE
  have b1 : w1.cell? ⟨B, 1, none⟩ = some (.bool y.numeric) := HB1.out.cell 1 _ rfl
  have z1 := HB1.out.lt
  cases hn : y.numeric
  all_goals
    rw [hn] at b1 HE
    simp only [Bool.false_eq_true, if_false, if_true] at HE
    clear hn
    (first | unfold kSuffix at HE | unfold kNumber at HE)
    go_wp2_with fail
    refine (HF.out _ _ _ HP1.out).mono ?_
    rintro e w2 ⟨rfl, hk2⟩
    have HK2 := Lib.hid (HK1.out.trans hk2)
    have HB2 := Lib.hid (HB1.out.kept hk2)
    clear hk2 b1 z1
    have HG2 := Lib.hid (HG.out.kept HK2.out)
    generalize freeB L _ = F at *
    cases F with
    | false =>
      rw [if_pos rfl] at HE
      go_wp2_with fail
      go_ret
      exact ⟨ret_int HE.out.symm, HK2.out⟩
    | true =>
      rw [if_neg (by simp)] at HE
      have b4 : w2.cell? ⟨B, 4, none⟩ = some (.string (bs y.bare)) := HB2.out.cell 4 _ rfl
      have z2 := HB2.out.lt
      go_wp2_with fail
      refine (HB.out _ HG2.out).mono ?_
      rintro e w3 ⟨v3, rfl, hp3, hk3⟩
      have HK3 := Lib.hid (HK2.out.trans hk3)
      clear hp3 hk3
      go_wp2_with fail
      go_ret
      exact ⟨ret_int HE.out.symm, HK3.out⟩
end Go.Proofs.YtafcngdnngpdnaaGreatDoor

/- The parts of a template as the reference has them, in plain Lean: each byte of a text a part of its own. No condition. -/
set_option linter.all false
namespace Go.Proofs.YtafcngdnngpdnaaGreatDoor
open Go.RowKit

/-- A part of the reference: a byte of text, or a field. -/
structure Rp where
  txt : Bs
  fld : Bs
  grp : Nat
def rpsP : Nat → Bs → Nat → Nat → Option (List Rp)
  | 0, _, _, _ => none
  | _ + 1, [], _, g => if g = 0 then some [] else none
  | f + 1, b :: r, gs, g =>
    if inSet spSet b = false then (rpsP f r gs g).map fun l => ⟨[b], [], g⟩ :: l
    else if b = 123 then
      if before 125 r < r.length ∧ smallB (r.take (before 125 r)) 20 [] = true then (rpsP f (r.drop (before 125 r + 1)) gs g).map fun l => ⟨[], r.take (before 125 r), g⟩ :: l else none
    else if b = 91 ∧ g = 0 then rpsP f r (gs + 1) (gs + 1)
    else if b = 93 ∧ g ≠ 0 then rpsP f r gs 0
    else none
theorem rpsP_end (f gs g : Nat) : rpsP (f + 1) [] gs g = if g = 0 then some [] else none := rfl
theorem rpsP_run {b : UInt8} {r : Bs} (f gs g : Nat) (h : inSet spSet b = false) : rpsP (f + 1) (b :: r) gs g = (rpsP f r gs g).map fun l => ⟨[b], [], g⟩ :: l := by
  rw [rpsP, if_pos h]
theorem rpsP_fld {r : Bs} (f gs g : Nat) : rpsP (f + 1) (123 :: r) gs g = if before 125 r < r.length ∧ smallB (r.take (before 125 r)) 20 [] = true then (rpsP f (r.drop (before 125 r + 1)) gs g).map fun l => ⟨[], r.take (before 125 r), g⟩ :: l else none := by
  rw [rpsP, if_neg (by decide), if_pos rfl]
theorem rpsP_open {r : Bs} (f gs g : Nat) : rpsP (f + 1) (91 :: r) gs g = if g = 0 then rpsP f r (gs + 1) (gs + 1) else none := by
  rw [rpsP, if_neg (by decide), if_neg (by decide)]
  by_cases h : g = 0
  · rw [if_pos ⟨rfl, h⟩, if_pos h]
  · rw [if_neg (fun q => h q.2), if_neg (fun q => absurd q.1 (by decide)), if_neg h]
theorem rpsP_shut {r : Bs} (f gs g : Nat) : rpsP (f + 1) (93 :: r) gs g = if g = 0 then none else rpsP f r gs 0 := by
  rw [rpsP, if_neg (by decide), if_neg (by decide), if_neg (fun q => absurd q.1 (by decide))]
  by_cases h : g = 0
  · rw [if_neg (fun q => q.2 h), if_pos h]
  · rw [if_pos ⟨rfl, h⟩, if_neg h]
theorem rpsP_bad {r : Bs} (f gs g : Nat) : rpsP (f + 1) (125 :: r) gs g = none := by
  rw [rpsP, if_neg (by decide), if_neg (by decide), if_neg (fun q => absurd q.1 (by decide)), if_neg (fun q => absurd q.1 (by decide))]
def expP (p : Pc) : List Rp := if p.fld = true then [⟨[], p.txt, p.grp⟩] else p.txt.map fun b => ⟨[b], [], p.grp⟩
def expL (ps : List Pc) : List Rp := ps.flatMap expP
theorem expL_cons (p : Pc) (ps : List Pc) : expL (p :: ps) = expP p ++ expL ps := rfl
theorem runN_nil : runN [] = 0 := rfl
theorem runN_in {b : UInt8} {r : Bs} (h : inSet spSet b = true) : runN (b :: r) = 0 := by
  unfold runN; rw [runN_zero h]; rfl
theorem runN_out {b : UInt8} {r : Bs} (h : inSet spSet b = false) : runN (b :: r) = runN r + 1 := by
  have hge := Lib.indexAny_ge spSet r
  unfold inSet at h
  unfold runN
  rw [Lib.indexAny, h]
  simp only [Bool.false_eq_true, if_false, List.length_cons]
  by_cases q : Lib.indexAny r spSet = -1
  · rw [q]; rfl
  · have q' : (Lib.indexAny r spSet == -1) = false := by rw [beq_eq_false_iff_ne]; exact q
    rw [q']
    simp only [Bool.false_eq_true, if_false]
    rw [if_neg (by omega), if_neg (by omega)]; omega
theorem runN_le (r : Bs) : runN r ≤ r.length := by
  unfold runN
  split
  · exact Nat.le_refl _
  · have := indexAny_lt spSet r; omega
theorem splP_fuel : ∀ (n : Nat) (l : Bs), l.length ≤ n → ∀ f f' gs g, l.length < f → l.length < f' → splP f l gs g = splP f' l gs g := by
  intro n
  induction n with
  | zero =>
    intro l hl f f' gs g h1 h2
    obtain rfl : l = [] := List.length_eq_zero_iff.1 (by omega)
    obtain ⟨f, rfl⟩ : ∃ k, f = k + 1 := ⟨f - 1, by simp at h1; omega⟩
    obtain ⟨f', rfl⟩ : ∃ k, f' = k + 1 := ⟨f' - 1, by simp at h2; omega⟩
    rw [splP_end, splP_end]
  | succ n ih =>
    intro l hl f f' gs g h1 h2
    obtain ⟨f, rfl⟩ : ∃ k, f = k + 1 := ⟨f - 1, by omega⟩
    obtain ⟨f', rfl⟩ : ∃ k, f' = k + 1 := ⟨f' - 1, by omega⟩
    cases l with
    | nil => rw [splP_end, splP_end]
    | cons b r =>
      simp only [List.length_cons] at hl h1 h2
      cases hin : inSet spSet b with
      | false =>
        rw [splP_run _ _ _ hin, splP_run _ _ _ hin]
        have hr := runN_out (r := r) hin
        rw [ih _ (by rw [List.length_drop]; simp only [List.length_cons]; omega) f f' gs g (by rw [List.length_drop]; simp only [List.length_cons]; omega) (by rw [List.length_drop]; simp only [List.length_cons]; omega)]
      | true =>
        rcases spSet_cases hin with rfl | rfl | rfl | rfl
        · rw [splP_fld, splP_fld, ih (r.drop (before 125 r + 1)) (by rw [List.length_drop]; omega) f f' gs g (by rw [List.length_drop]; omega) (by rw [List.length_drop]; omega)]
        · rw [splP_bad, splP_bad]
        · rw [splP_open, splP_open, ih r (by omega) f f' (gs + 1) (gs + 1) (by omega) (by omega)]
        · rw [splP_shut, splP_shut, ih r (by omega) f f' gs 0 (by omega) (by omega)]
/-- A run of text ahead of what is left. -/
theorem splP_front (r : Bs) (f gs g : Nat) (h : r.length < f) : (splP f r gs g).map expL = (splP f (r.drop (runN r)) gs g).map fun l => ((r.take (runN r)).map fun b => (⟨[b], [], g⟩ : Rp)) ++ expL l := by
  cases r with
  | nil =>
    rw [runN_nil]
    simp only [List.drop_zero, List.take_zero, List.map_nil, List.nil_append]
  | cons c r' =>
    cases hin : inSet spSet c with
    | true =>
      rw [runN_in hin]
      simp only [List.drop_zero, List.take_zero, List.map_nil, List.nil_append]
    | false =>
      obtain ⟨f, rfl⟩ : ∃ k, f = k + 1 := ⟨f - 1, by omega⟩
      simp only [List.length_cons] at h
      have hr := runN_out (r := r') hin
      rw [splP_run _ _ _ hin, splP_fuel r'.length _ (by rw [List.length_drop]; simp only [List.length_cons]; omega) (f + 1) f gs g (by rw [List.length_drop]; simp only [List.length_cons]; omega) (by rw [List.length_drop]; simp only [List.length_cons]; omega), Option.map_map]
      congr 1
theorem rps_exp : ∀ (n : Nat) (l : Bs), l.length ≤ n → ∀ f gs g, l.length < f → rpsP f l gs g = (splP f l gs g).map expL := by
  intro n
  induction n with
  | zero =>
    intro l hl f gs g h1
    obtain rfl : l = [] := List.length_eq_zero_iff.1 (by omega)
    obtain ⟨f, rfl⟩ : ∃ k, f = k + 1 := ⟨f - 1, by simp at h1; omega⟩
    rw [splP_end, rpsP_end]
    split <;> rfl
  | succ n ih =>
    intro l hl f gs g h1
    obtain ⟨f, rfl⟩ : ∃ k, f = k + 1 := ⟨f - 1, by omega⟩
    cases l with
    | nil =>
      rw [splP_end, rpsP_end]
      split <;> rfl
    | cons b r =>
      simp only [List.length_cons] at hl h1
      cases hin : inSet spSet b with
      | false =>
        rw [splP_run _ _ _ hin, rpsP_run _ _ _ hin, ih r (by omega) f gs g (by omega), splP_front r f gs g (by omega), runN_out hin, Option.map_map, Option.map_map]
        rfl
      | true =>
        rcases spSet_cases hin with rfl | rfl | rfl | rfl
        · rw [splP_fld, rpsP_fld, ih (r.drop (before 125 r + 1)) (by rw [List.length_drop]; omega) f gs g (by rw [List.length_drop]; omega)]
          split
          · rw [Option.map_map, Option.map_map]; rfl
          · rfl
        · rw [splP_bad, rpsP_bad]; rfl
        · rw [splP_open, rpsP_open, ih r (by omega) f (gs + 1) (gs + 1) (by omega)]
          split <;> rfl
        · rw [splP_shut, rpsP_shut, ih r (by omega) f gs 0 (by omega)]
          split <;> rfl
/-- The parts of a template. -/
def rpsT (t : Bs) : Option (List Rp) := (splT t).map expL
theorem rpsT_eq (t : Bs) : rpsT t = rpsP (t.length + 1) t 0 0 := by
  unfold rpsT splT
  rw [rps_exp t.length t (Nat.le_refl _) _ 0 0 (by omega)]
/-- What is known of the pieces of a template: texts are not empty, fields are small words. -/
theorem splP_pcs : ∀ (f : Nat) (r : Bs) (G g : Nat) (l : List Pc), splP f r G g = some l → ∀ p ∈ l, 0 < p.txt.length ∧ p.txt.length ≤ r.length ∧ (p.fld = true → smallB p.txt 20 [] = true) ∧ (p.fld = false → ∃ k n, p.txt = (r.drop k).take n)
  | 0, _, _, _, _, h => by cases h
  | f + 1, [], G, g, l, h => by
    rw [splP_end] at h
    split at h
    · cases h; intro p hp; cases hp
    · cases h
  | f + 1, b :: r, G, g, l, h => by
    cases hin : inSet spSet b with
    | false =>
      rw [splP_run _ _ _ hin, Option.map_eq_some_iff] at h
      obtain ⟨l', h1, rfl⟩ := h
      have hr := runN_out (r := r) hin
      have hl := runN_le (b :: r)
      intro p hp
      rcases List.mem_cons.1 hp with rfl | hp
      · refine ⟨by rw [List.length_take]; simp only [List.length_cons]; omega, by rw [List.length_take]; omega, (fun q => by cases q), fun _ => ⟨0, runN (b :: r), by simp⟩⟩
      · obtain ⟨a1, a2, a3, a4⟩ := splP_pcs f _ G g l' h1 p hp
        refine ⟨a1, by rw [List.length_drop] at a2; omega, a3, fun q => ?_⟩
        obtain ⟨k, n, e⟩ := a4 q
        exact ⟨runN (b :: r) + k, n, by rw [e, List.drop_drop]⟩
    | true =>
      rcases spSet_cases hin with rfl | rfl | rfl | rfl
      · rw [splP_fld] at h
        split at h
        · rename_i hc
          rw [Option.map_eq_some_iff] at h
          obtain ⟨l', h1, rfl⟩ := h
          intro p hp
          rcases List.mem_cons.1 hp with rfl | hp
          · refine ⟨?_, by rw [List.length_take]; simp only [List.length_cons]; omega, fun _ => hc.2, fun q => by cases q⟩
            have h2 := hc.2
            unfold smallB at h2
            rw [Bool.and_eq_true] at h2
            have := of_decide_eq_true h2.1
            simp at this ⊢; omega
          · obtain ⟨a1, a2, a3, a4⟩ := splP_pcs f _ G g l' h1 p hp
            refine ⟨a1, by rw [List.length_drop] at a2; simp only [List.length_cons]; omega, a3, fun q => ?_⟩
            obtain ⟨k, n, e⟩ := a4 q
            exact ⟨before 125 r + 1 + 1 + k, n, by rw [e, List.drop_drop, show before 125 r + 1 + 1 + k = (before 125 r + 1 + k) + 1 by omega, List.drop_succ_cons]⟩
        · cases h
      · rw [splP_bad] at h; cases h
      · rw [splP_open] at h
        split at h
        · intro p hp
          obtain ⟨a1, a2, a3, a4⟩ := splP_pcs f _ _ _ l h p hp
          refine ⟨a1, by simp only [List.length_cons]; omega, a3, fun q => ?_⟩
          obtain ⟨k, n, e⟩ := a4 q
          exact ⟨k + 1, n, by rw [e, List.drop_succ_cons]⟩
        · cases h
      · rw [splP_shut] at h
        split at h
        · cases h
        · intro p hp
          obtain ⟨a1, a2, a3, a4⟩ := splP_pcs f _ _ _ l h p hp
          refine ⟨a1, by simp only [List.length_cons]; omega, a3, fun q => ?_⟩
          obtain ⟨k, n, e⟩ := a4 q
          exact ⟨k + 1, n, by rw [e, List.drop_succ_cons]⟩
theorem small_ne {x : Bs} {n : Int} {m : Bs} (h : smallB x n m = true) : x ≠ [] := by
  rintro rfl; cases h
theorem splT_pcs {t : Bs} {l : List Pc} (h : splT t = some l) : ∀ p ∈ l, 0 < p.txt.length ∧ p.txt.length ≤ t.length ∧ (p.fld = true → smallB p.txt 20 [] = true) ∧ (p.fld = false → ∃ k n, p.txt = (t.drop k).take n) :=
  splP_pcs _ t 0 0 l h
theorem splL_pcs {t : Bs} : ∀ p ∈ splL t, 0 < p.txt.length ∧ p.txt.length ≤ t.length ∧ (p.fld = true → smallB p.txt 20 [] = true) := by
  intro p hp
  unfold splL at hp
  split at hp
  · cases h : splT t with
    | none => rw [h] at hp; cases hp
    | some l =>
      rw [h] at hp
      obtain ⟨a, b, c, _⟩ := splT_pcs h p hp
      exact ⟨a, b, c⟩
  · cases hp
/-- Does a field stand for itself in the parts? -/
def itsB (l : List Rp) (key : Bs) : Bool := l.any fun p => (p.fld == key) && l.all fun q => p.grp == 0 || (!(q.grp == p.grp) || (q.fld == [] || q.fld == key))
theorem its_free (ps : List Pc) (key : Bs) (hk : key ≠ []) (hn : ∀ p ∈ ps, 0 < p.txt.length) : itsB (expL ps) key = freeB ps key := by
  have hmem : ∀ q : Rp, q ∈ expL ps ↔ ∃ p ∈ ps, q ∈ expP p := fun q => by unfold expL; rw [List.mem_flatMap]
  have hne : ∀ p ∈ ps, p.txt ≠ [] := fun p hp e => by have := hn p hp; rw [e] at this; simp at this
  rw [Bool.eq_iff_iff]
  constructor
  · intro h
    unfold itsB at h
    rw [List.any_eq_true] at h
    obtain ⟨q, hq, h2⟩ := h
    rw [Bool.and_eq_true, beq_iff_eq, List.all_eq_true] at h2
    obtain ⟨hf, hall⟩ := h2
    obtain ⟨p, hp, hqp⟩ := (hmem q).1 hq
    unfold expP at hqp
    split at hqp
    · rename_i hfl
      rw [List.mem_singleton] at hqp
      subst hqp
      unfold freeB
      rw [List.any_eq_true]
      refine ⟨p, hp, ?_⟩
      simp only at hf hall
      rw [hfl, hf]
      simp only [beq_self_eq_true, Bool.true_and, Bool.not_eq_true']
      rw [Bool.eq_false_iff]
      intro hc
      rw [List.contains_iff_mem] at hc
      unfold othG at hc
      rw [List.mem_map] at hc
      obtain ⟨p2, hp2, e2⟩ := hc
      rw [List.mem_filter] at hp2
      obtain ⟨hp2m, hp2c⟩ := hp2
      simp only [Bool.and_eq_true, Bool.not_eq_true'] at hp2c
      obtain ⟨c1, c2, c3⟩ := hp2c
      have hm2 : (⟨[], p2.txt, p2.grp⟩ : Rp) ∈ expL ps := (hmem _).2 ⟨p2, hp2m, by unfold expP; rw [if_pos c1]; simp⟩
      have h3 := hall _ hm2
      simp only at h3
      have e3 : p2.grp = p.grp := by omega
      rw [← e3, c3, c2] at h3
      have : (p2.txt == ([] : Bs)) = false := by rw [beq_eq_false_iff_ne]; exact hne p2 hp2m
      rw [this] at h3
      simp at h3
    · rw [List.mem_map] at hqp
      obtain ⟨b, _, rfl⟩ := hqp
      exact absurd hf.symm hk
  · intro h
    unfold freeB at h
    rw [List.any_eq_true] at h
    obtain ⟨p, hp, h2⟩ := h
    simp only [Bool.and_eq_true, Bool.not_eq_true'] at h2
    obtain ⟨hf, ht, hc⟩ := h2
    rw [beq_iff_eq] at ht
    unfold itsB
    rw [List.any_eq_true]
    refine ⟨⟨[], p.txt, p.grp⟩, (hmem _).2 ⟨p, hp, by unfold expP; rw [if_pos hf]; simp⟩, ?_⟩
    simp only
    rw [Bool.and_eq_true, beq_iff_eq, List.all_eq_true]
    refine ⟨ht, fun q hq => ?_⟩
    obtain ⟨p2, hp2, hq2⟩ := (hmem q).1 hq
    unfold expP at hq2
    split at hq2
    · rename_i hf2
      rw [List.mem_singleton] at hq2
      subst hq2
      simp only
      by_cases g0 : p.grp = 0
      · rw [g0]; simp
      by_cases g1 : p2.grp = p.grp
      · by_cases t2 : p2.txt = key
        · rw [t2]; simp
        · exfalso
          rw [Bool.eq_false_iff] at hc
          refine hc ?_
          rw [List.contains_iff_mem]
          unfold othG
          rw [List.mem_map]
          refine ⟨p2, ?_, by rw [g1]⟩
          rw [List.mem_filter]
          refine ⟨hp2, ?_⟩
          have : (p2.txt == key) = false := by rw [beq_eq_false_iff_ne]; exact t2
          have g2 : (p2.grp == 0) = false := by rw [beq_eq_false_iff_ne]; omega
          rw [hf2, this, g2]; rfl
      · have : (p2.grp == p.grp) = false := by rw [beq_eq_false_iff_ne]; exact g1
        rw [this]; simp
    · rw [List.mem_map] at hq2
      obtain ⟨b, _, rfl⟩ := hq2
      simp
/-- The groups in which a field has no value. -/
def dropG (ps : List Pc) (val : Bs → Bs) : List Int := (ps.filter fun p => p.fld && (!(p.grp == 0) && (val p.txt == []))).map fun p => (p.grp : Int)
/-- What a piece brings. -/
def fillP (val : Bs → Bs) (ds : List Int) (p : Pc) : Bs := if ds.contains (p.grp : Int) = true then [] else if p.fld = true then val p.txt else p.txt
/-- A template filled. -/
def fillB (ps : List Pc) (val : Bs → Bs) : Bs := ps.flatMap (fillP val (dropG ps val))
def goneR (l : List Rp) (val : Bs → Bs) (g : Nat) : Bool := l.any fun q => decide (0 < g) && ((q.grp == g) && (!(q.fld == []) && (val q.fld == [])))
def fillR (l : List Rp) (val : Bs → Bs) : Bs := l.flatMap fun p => if goneR l val p.grp = true then [] else p.txt ++ (if p.fld = [] then [] else val p.fld)
theorem gone_drop (ps : List Pc) (val : Bs → Bs) (hn : ∀ p ∈ ps, 0 < p.txt.length) (g : Nat) : goneR (expL ps) val g = (dropG ps val).contains (g : Int) := by
  have hmem : ∀ q : Rp, q ∈ expL ps ↔ ∃ p ∈ ps, q ∈ expP p := fun q => by unfold expL; rw [List.mem_flatMap]
  have hne : ∀ p ∈ ps, p.txt ≠ [] := fun p hp e => by have := hn p hp; rw [e] at this; simp at this
  rw [Bool.eq_iff_iff, List.contains_iff_mem]
  unfold goneR dropG
  rw [List.any_eq_true, List.mem_map]
  constructor
  · rintro ⟨q, hq, h⟩
    simp only [Bool.and_eq_true, decide_eq_true_eq, beq_iff_eq, Bool.not_eq_true', beq_eq_false_iff_ne] at h
    obtain ⟨h0, h1, h2, h3⟩ := h
    obtain ⟨p, hp, hqp⟩ := (hmem q).1 hq
    unfold expP at hqp
    split at hqp
    · rename_i hf
      rw [List.mem_singleton] at hqp
      subst hqp
      simp only at h1 h2 h3
      refine ⟨p, ?_, by rw [h1]⟩
      rw [List.mem_filter]
      refine ⟨hp, ?_⟩
      have g2 : (p.grp == 0) = false := by rw [beq_eq_false_iff_ne]; omega
      rw [hf, g2, h3]; rfl
    · rw [List.mem_map] at hqp
      obtain ⟨b, _, rfl⟩ := hqp
      exact absurd rfl h2
  · rintro ⟨p, hp, e⟩
    rw [List.mem_filter] at hp
    obtain ⟨hp, h⟩ := hp
    simp only [Bool.and_eq_true, beq_iff_eq, Bool.not_eq_true', beq_eq_false_iff_ne] at h
    obtain ⟨h1, h2, h3⟩ := h
    have e' : p.grp = g := by omega
    refine ⟨⟨[], p.txt, p.grp⟩, (hmem _).2 ⟨p, hp, by unfold expP; rw [if_pos h1]; simp⟩, ?_⟩
    simp only [Bool.and_eq_true, decide_eq_true_eq, beq_iff_eq, Bool.not_eq_true', beq_eq_false_iff_ne]
    exact ⟨by omega, e', hne p hp, h3⟩
theorem fill_eq (ps : List Pc) (val : Bs → Bs) (hn : ∀ p ∈ ps, 0 < p.txt.length) : fillR (expL ps) val = fillB ps val := by
  have hne : ∀ p ∈ ps, p.txt ≠ [] := fun p hp e => by have := hn p hp; rw [e] at this; simp at this
  have hg := gone_drop ps val hn
  unfold fillR fillB
  generalize goneR (expL ps) val = G at hg ⊢
  generalize dropG ps val = D at hg ⊢
  clear hn
  induction ps with
  | nil => rfl
  | cons p ps ih =>
    rw [expL_cons, List.flatMap_append, List.flatMap_cons, ih (fun q hq => hne q (List.mem_cons_of_mem _ hq))]
    congr 1
    unfold expP fillP
    rw [← hg p.grp]
    split
    · rename_i hf
      have := hne p (List.mem_cons_self ..)
      simp only [List.flatMap_cons, List.flatMap_nil, List.append_nil, List.nil_append]
      rw [if_neg this]
    · rw [List.flatMap_map]
      simp only [if_true, List.append_nil]
      split
      · induction p.txt with
        | nil => rfl
        | cons b t ih2 => rw [List.flatMap_cons, ih2]; rfl
      · clear hne
        induction p.txt with
        | nil => rfl
        | cons b t ih2 => rw [List.flatMap_cons, ih2]; rfl
end Go.Proofs.YtafcngdnngpdnaaGreatDoor

/- line, small, kind of publisherref31. Conditions: lengths. -/
set_option linter.all false
namespace Go.Proofs.YtafcngdnngpdnaaGreatDoor
open Go.RowKit

theorem lnB_bad {l : Bs} {k : Nat} (hk : k < l.length) (h : l[k] = 10) : lnB l = false := by
  unfold lnB
  have : l.contains 10 = true := by
    rw [List.contains_iff_mem, ← h]; exact List.getElem_mem hk
  rw [this]; simp
theorem lnB_ok {l : Bs} (h : ∀ k (hk : k < l.length), l[k] ≠ 10) : lnB l = validB (bs l) := by
  unfold lnB
  have : l.contains 10 = false := by
    rw [Bool.eq_false_iff]
    intro q
    rw [List.contains_iff_mem] at q
    obtain ⟨k, hk, e⟩ := List.getElem_of_mem q
    exact h k hk e
  rw [this]; simp
set_option maxRecDepth 100000 in
set_option maxHeartbeats 1600000 in
theorem rline31_any (l : Bs) (w : World) (hl : l.length ≤ 1100000) : Calls Tryz.prog 46 #[.string (bs l)] w fun e w' => e = .returned (.bool (lnB l)) ∧ Kept w w' := by
  have HV := Lib.hid (fun w => rvalid_any (bs l) w (by simp; omega))
  have HF : Hid (∀ k (hk : k < l.length), l[k] = 10 → lnB l = false) := fun k hk h => lnB_bad hk h
  have HT : Hid ((∀ k (hk : k < l.length), l[k] ≠ 10) → lnB l = validB (bs l)) := fun h => lnB_ok h
  generalize lnB l = R at *
  generalize validB (bs l) = V at *
  go_enter Tryz.func46, Tryz.ntmps46
  go_wp2_with fail
  go_loop [3] (fun i => ∃ k : Nat, k ≤ l.length ∧ i = .int .i64 k ∧ Hid (∀ j (hj : j < l.length), j < k → l[j] ≠ 10)) (fun i => l.length - (intOf i).toNat)
  case atStart => exact ⟨0, Nat.zero_le _, rfl, fun j hj h => by omega⟩
  case round =>
    obtain ⟨k, hk, rfl, HN⟩ := hrel
    by_cases hlt : k < l.length
    · have i0 := run_ix (P := Tryz.prog) (t := 9) Tryz.underlying9 l k hlt k rfl
      have HD : Hid (at8 l k = 10 ↔ l[k] = 10) := by show _ ↔ _; rw [at8_get l k hlt]; exact u8_int _ 10 (by decide)
      by_cases h1 : at8 l k = 10
      · have HR := Lib.hid (HF.out k hlt (HD.out.1 h1))
        have hb' : (at8 l k == 10) = true := by simpa using h1
        generalize at8 l k = b at *
        clear h1 HD
        go_wp2_with fail
        go_ret
        exact ⟨ret_bool HR.out.symm, Kept.refl _⟩
      · have HS : Hid (∀ j (hj : j < l.length), j < k + 1 → l[j] ≠ 10) := by
          intro j hj hjk
          rcases Nat.lt_or_ge j k with q | q
          · exact HN.out j hj q
          · obtain rfl : j = k := by omega
            exact fun q => h1 (HD.out.2 q)
        have hb' : (at8 l k == 10) = false := by simpa using h1
        generalize at8 l k = b at *
        clear h1 HD HN
        go_wp2_with fail
        go_round
        case rel => exact ⟨k + 1, by omega, by go_num, HS.out⟩
        case measure => simp [intOf]; omega
    · obtain rfl : k = l.length := by omega
      have HR := Lib.hid (HT.out (fun k hk => HN.out k hk hk))
      go_wp2_with fail
      refine (HV.out _).mono ?_
      rintro e w1 ⟨rfl, hk1⟩
      have HK1 := Lib.hid hk1
      clear hk1
      go_wp2_with fail
      go_ret
      exact ⟨ret_bool HR.out.symm, HK1.out⟩
set_option maxRecDepth 100000 in
theorem rlow_any (b : Int) (w : World) (h0 : 0 ≤ b) (h1 : b < 256) : Calls Tryz.prog 63 #[.int .u8 b] w fun e w' => e = .returned (.bool (decide (97 ≤ b) && decide (b ≤ 122))) ∧ w = w' := by
  obtain ⟨R, HR⟩ : ∃ R, Hid ((decide (97 ≤ b) && decide (b ≤ 122)) = R) := ⟨_, rfl⟩
  rw [HR.out]
  by_cases q1 : 97 ≤ b
  · by_cases q2 : b ≤ 122
    · have HV : Hid (true = R) := by show _ = _; rw [← HR.out, decide_eq_true q1, decide_eq_true q2]; rfl
      clear HR
      go_enter Tryz.func63, Tryz.ntmps63
      go_wp2_with fail
      go_ret
      exact ⟨ret_bool HV.out, rfl⟩
    · have HV : Hid (false = R) := by show _ = _; rw [← HR.out, decide_eq_true q1, decide_eq_false q2]; rfl
      clear HR
      go_enter Tryz.func63, Tryz.ntmps63
      go_wp2_with fail
      go_ret
      exact ⟨ret_bool HV.out, rfl⟩
  · have HV : Hid (false = R) := by show _ = _; rw [← HR.out, decide_eq_false q1]; rfl
    clear HR
    go_enter Tryz.func63, Tryz.ntmps63
    go_wp2_with fail
    go_ret
    exact ⟨ret_bool HV.out, rfl⟩
end Go.Proofs.YtafcngdnngpdnaaGreatDoor
