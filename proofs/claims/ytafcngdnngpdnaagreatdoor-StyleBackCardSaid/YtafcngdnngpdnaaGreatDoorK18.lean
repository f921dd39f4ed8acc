/- heads and Builtin of style. No condition. -/
import Derived.Test.YtafcngdnngpdnaaGreatDoorK17
import Derived.Test.YtafcngdnngpdnaaGreatDoorK07
import Derived.Test.YtafcngdnngpdnaaGreatDoorK11
import Derived.Lib.ItoaNum

set_option linter.all false
namespace Go.Proofs.YtafcngdnngpdnaaGreatDoor
open Go.RowKit

def hName : Bs := [110, 97, 109, 101, 58]
def hNumeric : Bs := [110, 117, 109, 101, 114, 105, 99, 58]
def hSort : Bs := [115, 111, 114, 116, 58]
def hCite : Bs := [99, 105, 116, 101, 58]
def hBare : Bs := [98, 97, 114, 101, 58]
def hBetween : Bs := [98, 101, 116, 119, 101, 101, 110, 58]
def hOpen : Bs := [111, 112, 101, 110, 58]
def hClose : Bs := [99, 108, 111, 115, 101, 58]
def hMost : Bs := [109, 111, 115, 116, 58]
/-- What the first nine lines begin with. -/
def headsL : List Bs := [hName, hNumeric, hSort, hCite, hBare, hBetween, hOpen, hClose, hMost]
set_option maxRecDepth 100000 in
set_option maxHeartbeats 1600000 in
theorem sheads_any (w : World) : Calls Tryz.prog 16 #[] w fun e w' => e = .returned (.agg (strCells headsL).toArray) ∧ Kept w w' := by
  go_enter Tryz.func16, Tryz.ntmps16
  go_wp2_with fail
  refine bodyPost_ret (v := .agg (strCells headsL).toArray) ?_ rfl ⟨rfl, kept_alloc _ _⟩
  unfold strCells headsL hName hNumeric hSort hCite hBare hBetween hOpen hClose hMost
  simp [results, Tryz.results16, go_sem]
def dateYE : List Pr := [([42], [123, 97, 117, 116, 104, 111, 114, 115, 125, 32, 40, 123, 121, 101, 97, 114, 125, 123, 115, 117, 102, 102, 105, 120, 125, 41, 46, 32, 123, 116, 105, 116, 108, 101, 125, 46, 91, 32, 123, 112, 117, 98, 108, 105, 115, 104, 101, 114, 125, 46, 93]), ([97, 114, 116, 105, 99, 108, 101], [123, 97, 117, 116, 104, 111, 114, 115, 125, 32, 40, 123, 121, 101, 97, 114, 125, 123, 115, 117, 102, 102, 105, 120, 125, 41, 46, 32, 123, 116, 105, 116, 108, 101, 125, 46, 32, 123, 106, 111, 117, 114, 110, 97, 108, 125, 91, 32, 123, 118, 111, 108, 117, 109, 101, 125, 93, 91, 44, 32, 123, 112, 97, 103, 101, 115, 125, 93, 46])]
def dateY : StyT := ⟨[97, 117, 116, 104, 111, 114, 45, 100, 97, 116, 101], false, [97, 117, 116, 104, 111, 114, 32, 121, 101, 97, 114, 32, 116, 105, 116, 108, 101, 32, 107, 101, 121], [123, 97, 117, 116, 104, 111, 114, 125, 32, 123, 121, 101, 97, 114, 125, 123, 115, 117, 102, 102, 105, 120, 125], [123, 121, 101, 97, 114, 125, 123, 115, 117, 102, 102, 105, 120, 125], [59, 32], [40], [41], 2, dateYE⟩
def numYE : List Pr := [([42], [123, 110, 117, 109, 98, 101, 114, 125, 46, 32, 123, 97, 117, 116, 104, 111, 114, 115, 125, 46, 32, 123, 116, 105, 116, 108, 101, 125, 91, 44, 32, 123, 121, 101, 97, 114, 125, 93, 46]), ([97, 114, 116, 105, 99, 108, 101], [123, 110, 117, 109, 98, 101, 114, 125, 46, 32, 123, 97, 117, 116, 104, 111, 114, 115, 125, 46, 32, 123, 116, 105, 116, 108, 101, 125, 46, 32, 123, 106, 111, 117, 114, 110, 97, 108, 125, 91, 32, 123, 118, 111, 108, 117, 109, 101, 125, 93, 91, 44, 32, 123, 121, 101, 97, 114, 125, 93, 91, 44, 32, 123, 112, 97, 103, 101, 115, 125, 93, 46])]
def numY : StyT := ⟨[110, 117, 109, 101, 114, 105, 99], true, [], [123, 110, 117, 109, 98, 101, 114, 125], [123, 110, 117, 109, 98, 101, 114, 125], [44, 32], [91], [93], 3, numYE⟩
def zeroY : StyT := ⟨[], false, [], [], [], [], [], [], 0, []⟩
/-- The style that is built in under a name. -/
def bltY (n : Bs) : Option StyT := if n = dateY.name then some dateY else if n = numY.name then some numY else none
/-- A style that a call gives back. -/
def StyP (o : Option StyT) (w : World) (e : Ending) (w' : World) : Prop := ∃ vE, e = .returned (.tuple #[styV vE (o.getD zeroY), .bool o.isSome]) ∧ Prs w' vE (o.getD zeroY).entries ∧ Kept w w'
theorem prs_two (w : World) (p q : Pr) : Prs (w.alloc (.cells #[.string (bs p.1), .string (bs p.2), .string (bs q.1), .string (bs q.2)] 35)) (.slice (some ⟨w.heap.size, 0, none⟩) 2 2) [p, q] := by
  refine ⟨_, _, rfl, Nat.le_refl _, fun _ => ⟨w.heap.size, 0, rfl, by simp, fun j x hx => ?_⟩⟩
  have hb := Blk.new w 35 #[.string (bs p.1), .string (bs p.2), .string (bs q.1), .string (bs q.2)]
  match j with
  | 0 => cases hx; exact ⟨hb.cell 0 _ rfl, hb.cell 1 _ rfl⟩
  | 1 => cases hx; exact ⟨hb.cell 2 _ rfl, hb.cell 3 _ rfl⟩
  | j + 2 => simp at hx
set_option maxRecDepth 100000 in
set_option maxHeartbeats 3200000 in
theorem sbuiltin_any (n : Bs) (w : World) : Calls Tryz.prog 12 #[.string (bs n)] w (StyP (bltY n) w) := by
  by_cases h1 : n = dateY.name
  · have e : bltY n = some dateY := by unfold bltY; rw [if_pos h1]
    rw [e]
    subst h1
    clear e
    unfold StyP
    show Calls _ _ #[.string (bs [97, 117, 116, 104, 111, 114, 45, 100, 97, 116, 101])] _ _
    go_enter Tryz.func12, Tryz.ntmps12
    go_wp2_with fail
    refine bodyPost_ret (v := .tuple #[styV (.slice (some ⟨w.heap.size + 1, 0, none⟩) 2 2) dateY, .bool true]) ?_ rfl ⟨_, rfl, ?_, (kept_alloc _ _).trans (kept_alloc _ _)⟩
    · unfold styV styCells dateY
      simp [results, Tryz.results12, go_sem]
    · have h := prs_two (w.alloc (.cells (styCells (.slice (some ⟨w.heap.size + 1, 0, none⟩) 2 2) dateY) 24)) (dateYE.getD 0 ([], [])) (dateYE.getD 1 ([], []))
      have e : (w.alloc (.cells (styCells (.slice (some ⟨w.heap.size + 1, 0, none⟩) 2 2) dateY) 24)).heap.size = w.heap.size + 1 := by simp
      rw [e] at h
      exact h
  by_cases h2 : n = numY.name
  · have e : bltY n = some numY := by unfold bltY; rw [if_neg h1, if_pos h2]
    rw [e]
    subst h2
    clear e h1
    unfold StyP
    show Calls _ _ #[.string (bs [110, 117, 109, 101, 114, 105, 99])] _ _
    go_enter Tryz.func12, Tryz.ntmps12
    go_wp2_with fail
    refine bodyPost_ret (v := .tuple #[styV (.slice (some ⟨w.heap.size + 1, 0, none⟩) 2 2) numY, .bool true]) ?_ rfl ⟨_, rfl, ?_, (kept_alloc _ _).trans (kept_alloc _ _)⟩
    · unfold styV styCells numY
      simp [results, Tryz.results12, go_sem]
    · have h := prs_two (w.alloc (.cells (styCells (.slice (some ⟨w.heap.size + 1, 0, none⟩) 2 2) numY) 24)) (numYE.getD 0 ([], [])) (numYE.getD 1 ([], []))
      have e : (w.alloc (.cells (styCells (.slice (some ⟨w.heap.size + 1, 0, none⟩) 2 2) numY) 24)).heap.size = w.heap.size + 1 := by simp
      rw [e] at h
      exact h
  have e : bltY n = none := by unfold bltY; rw [if_neg h1, if_neg h2]
  rw [e]
  have g1 : (n == ([97, 117, 116, 104, 111, 114, 45, 100, 97, 116, 101] : Bs)) = false := beq_eq_false_iff_ne.2 h1
  have g2 : (n == ([110, 117, 109, 101, 114, 105, 99] : Bs)) = false := beq_eq_false_iff_ne.2 h2
  clear e h1 h2
  unfold StyP
  go_enter Tryz.func12, Tryz.ntmps12
  go_wp2_with fail
  refine bodyPost_ret (v := .tuple #[styV (.slice none 0 0) zeroY, .bool false]) ?_ rfl ⟨_, rfl, ⟨none, 0, rfl, Nat.le_refl _, fun q => absurd q (by simp [zeroY])⟩, kept_alloc _ _⟩
  unfold styV styCells zeroY
  simp [results, Tryz.results12, go_sem]
end Go.Proofs.YtafcngdnngpdnaaGreatDoor

/- decimal of style. Conditions: lengths. -/
set_option linter.all false
namespace Go.Proofs.YtafcngdnngpdnaaGreatDoor
open Go.RowKit

def dgtB (b : UInt8) : Bool := decide (48 ≤ (b.toNat : Int)) && decide ((b.toNat : Int) ≤ 57)
/-- Is a text a number from 0 to 9999 without leading zeros? -/
def decB (l : Bs) : Bool := decide (1 ≤ l.length) && (decide (l.length ≤ 4) && (!(decide (at8 l 0 = 48) && !(l == [48])) && l.all dgtB))
set_option maxRecDepth 100000 in
set_option maxHeartbeats 3200000 in
theorem sdec_any (l : Bs) (w : World) (hl : l.length ≤ 1000000000) : Calls Tryz.prog 23 #[.string (bs l)] w fun e w' => e = .returned (.bool (decB l)) ∧ w = w' := by
  have HF : Hid (∀ k (hk : k < l.length), dgtB l[k] = false → decB l = false) := by
    intro k hk h1
    unfold decB
    have : l.all dgtB = false := List.all_eq_false.2 ⟨l[k], List.getElem_mem hk, by rw [h1]; simp⟩
    rw [this]; simp
  have HT : Hid ((∀ k (hk : k < l.length), dgtB l[k] = true) → decB l = (decide (1 ≤ l.length) && (decide (l.length ≤ 4) && !(decide (at8 l 0 = 48) && !(l == [48]))))) := by
    intro h
    unfold decB
    have : l.all dgtB = true := List.all_eq_true.2 (fun b hb => by
      obtain ⟨k, hk, e⟩ := List.getElem_of_mem hb
      have := h k hk
      rwa [e] at this)
    rw [this]; simp
  have HZ : Hid (at8 l 0 = 48 → (l == [48]) = false → decB l = false) := by
    intro h1 h2
    unfold decB
    rw [decide_eq_true h1, h2]; simp
  have HL4 : Hid (¬ l.length ≤ 4 → decB l = false) := by
    intro h1
    unfold decB
    rw [decide_eq_false h1]; simp
  by_cases h0 : l = []
  · subst h0
    clear HF HT HZ HL4
    go_enter Tryz.func23, Tryz.ntmps23
    go_wp2_with fail
    go_ret
    exact ⟨rfl, rfl⟩
  have h0' : (l == ([] : Bs)) = false := by simpa using h0
  have hl0 : 1 ≤ l.length := by cases l <;> simp at h0 ⊢
  obtain ⟨R, HR⟩ : ∃ R, Hid (decB l = R) := ⟨_, rfl⟩
  rw [HR.out] at HF HT HZ HL4 ⊢
  clear HR
  by_cases h1 : 4 < l.length
  · have HE := Lib.hid (HL4.out (by omega))
    clear HF HT HZ HL4
    go_enter Tryz.func23, Tryz.ntmps23
    go_wp2_with fail
    go_ret
    exact ⟨ret_bool HE.out.symm, rfl⟩
  have i0 := run_ix (P := Tryz.prog) (t := 9) Tryz.underlying9 l 0 (by omega) 0 rfl
  have HE : Hid (¬ (at8 l 0 = 48 ∧ (l == [48]) = false) → (∀ k (hk : k < l.length), dgtB l[k] = true) → R = true) := by
    intro hn h
    rw [HT.out h, decide_eq_true hl0, decide_eq_true (show l.length ≤ 4 by omega)]
    by_cases q : at8 l 0 = 48
    · rw [decide_eq_true q]
      have : (l == [48]) = true := by
        cases e : (l == [48])
        · exact absurd ⟨q, e⟩ hn
        · rfl
      rw [this]; rfl
    · rw [decide_eq_false q]; rfl
  clear HT HL4
  have main : ∀ (hn : ¬ (at8 l 0 = 48 ∧ (l == [48]) = false)), True := fun _ => trivial
  by_cases hz : at8 l 0 = 48 ∧ (l == [48]) = false
  · have HRR := Lib.hid (HZ.out hz.1 hz.2)
    obtain ⟨q1, q2⟩ := hz
    rw [q1] at i0
    clear HZ HF HE main q1
    go_enter Tryz.func23, Tryz.ntmps23
    go_wp2_with fail
    go_ret
    exact ⟨ret_bool HRR.out.symm, rfl⟩
  have HE2 := Lib.hid (HE.out hz)
  clear HE HZ main
  go_enter Tryz.func23, Tryz.ntmps23
  have hq : (at8 l 0 == 48) = true ∧ (l == [48]) = true ∨ (at8 l 0 == 48) = false := by
    by_cases q : at8 l 0 = 48
    · refine .inl ⟨by simpa using q, ?_⟩
      cases e : (l == [48])
      · exact absurd ⟨q, e⟩ hz
      · rfl
    · exact .inr (by simpa using q)
  generalize at8 l 0 = c0 at *
  clear hz
  rcases hq with ⟨q1, q2⟩ | q1
  all_goals
    go_wp2_with fail
    clear i0
    go_loop [22] (fun i => ∃ k : Nat, k ≤ l.length ∧ i = .int .i64 k ∧ Hid (∀ j (hj : j < l.length), j < k → dgtB l[j] = true)) (fun i => l.length - (intOf i).toNat)
    case atStart => exact ⟨0, Nat.zero_le _, rfl, fun j hj h => by omega⟩
    case round =>
      obtain ⟨k, hk, rfl, HN⟩ := hrel
      by_cases hlt : k < l.length
      · have i0 := run_ix (P := Tryz.prog) (t := 9) Tryz.underlying9 l k hlt k rfl
        have HLO : Hid (dgtB l[k] = (decide (48 ≤ at8 l k) && decide (at8 l k ≤ 57))) := by
          show _ = _
          rw [at8_get l k hlt]; rfl
        have HFK := Lib.hid (HF.out k hlt)
        have HNK : Hid (dgtB l[k] = true → ∀ j (hj : j < l.length), j < k + 1 → dgtB l[j] = true) := by
          intro h j hj hjk
          rcases Nat.lt_or_ge j k with q | q
          · exact HN.out j hj q
          · obtain rfl : j = k := by omega
            exact h
        by_cases hlow : 48 ≤ at8 l k ∧ at8 l k ≤ 57
        · obtain ⟨q1, q2⟩ := hlow
          have HS := Lib.hid (HNK.out (by rw [HLO.out, decide_eq_true q1, decide_eq_true q2]; rfl))
          have b1 : ¬ at8 l k < 48 := by omega
          have b2 : ¬ 57 < at8 l k := by omega
          generalize at8 l k = b at *
          clear HNK HFK q1 q2 HLO
          go_wp2_with fail
          go_round
          case rel => exact ⟨k + 1, by omega, by go_num, HS.out⟩
          case measure => simp [intOf]; omega
        · have HRR := Lib.hid (HFK.out (by rw [HLO.out, Bool.and_eq_false_iff, decide_eq_false_iff_not, decide_eq_false_iff_not]; omega))
          have hlow' : at8 l k < 48 ∨ 57 < at8 l k := by omega
          generalize at8 l k = b at *
          clear HNK HFK HLO hlow
          by_cases q1 : b < 48
          · clear hlow'
            go_wp2_with fail
            go_ret
            exact ⟨ret_bool HRR.out.symm, rfl⟩
          · have q2 : 57 < b := by omega
            clear hlow'
            go_wp2_with fail
            go_ret
            exact ⟨ret_bool HRR.out.symm, rfl⟩
      · obtain rfl : k = l.length := by omega
        have HRR := Lib.hid (HE2.out (fun k hk => HN.out k hk hk))
        go_wp2_with fail
        go_ret
        exact ⟨ret_bool HRR.out.symm, rfl⟩
end Go.Proofs.YtafcngdnngpdnaaGreatDoor

/- The text of a style and what a text says of one, in plain Lean. No condition. -/
set_option linter.all false
namespace Go.Proofs.YtafcngdnngpdnaaGreatDoor
open Go.RowKit

def yesL (b : Bool) : Bs := if b = true then [121, 101, 115] else [110, 111]
def valsL (y : StyT) : List Bs := [y.name, yesL y.numeric, y.sort, y.cite, y.bare, y.between, y.begin_, y.end_, Lib.decDigits y.most.toNat]
def headL (y : StyT) : List Bs := List.zipWith (fun a b => a ++ b) headsL (valsL y)
def kEntry : Bs := [101, 110, 116, 114, 121, 32]
def entL (p : Pr) : Bs := kEntry ++ p.1 ++ [58] ++ p.2
/-- The lines of a style. -/
def styLn (y : StyT) : List Bs := headL y ++ y.entries.map entL
def styS (y : StyT) : Bs := if styE y = 0 then joinLn (styLn y) else []
theorem styE_parts {y : StyT} (h : styE y = 0) : y.entries.length ≤ 128 ∧ smallB y.name 60 nameSet = true ∧ srtE y.sort = 0 ∧ citE y = 0 ∧ lnB y.between = true ∧ lnB y.begin_ = true ∧ lnB y.end_ = true ∧ 1 ≤ y.most ∧ y.most ≤ 32 ∧ entE y.entries = 0 := by
  unfold styE at h
  split at h
  · cases h
  rename_i q1
  split at h
  · cases h
  rename_i q2
  split at h
  · rename_i q; exact absurd h q
  rename_i q3
  split at h
  · rename_i q; exact absurd h q
  rename_i q4
  split at h
  · cases h
  rename_i q5
  split at h
  · cases h
  rename_i q6
  have q3' : srtE y.sort = 0 := Decidable.byContradiction fun q => q3 q
  have q4' : citE y = 0 := Decidable.byContradiction fun q => q4 q
  have q2' : smallB y.name 60 nameSet = true := by
    cases e : smallB y.name 60 nameSet
    · exact absurd e q2
    · rfl
  have f : ∀ b : Bool, ¬ b = false → b = true := fun b hb => by cases b <;> simp_all
  exact ⟨by omega, q2', q3', q4', f _ (fun e => q5 (.inl e)), f _ (fun e => q5 (.inr (.inl e))), f _ (fun e => q5 (.inr (.inr e))), by omega, by omega, h⟩
theorem dec_fin : ∀ k : Fin 100, (Lib.decDigits k.val).length ≤ 2 ∧ decB (Lib.decDigits k.val) = true := by decide +kernel
theorem dec_small (n : Nat) (h : n < 100) : (Lib.decDigits n).length ≤ 2 := (dec_fin ⟨n, h⟩).1
/-- What stands behind a text at the beginning of another. -/
def cutP (h l : Bs) : Option Bs := if h.isPrefixOf l = true then some (l.drop h.length) else none
theorem cutP_app (h v : Bs) : cutP h (h ++ v) = some v := by
  unfold cutP
  rw [if_pos (by rw [List.isPrefixOf_iff_prefix]; exact List.prefix_append h v), List.drop_left]
theorem cutP_len {h l v : Bs} (q : cutP h l = some v) : v = l.drop h.length ∧ l = h ++ v := by
  unfold cutP at q
  split at q
  · rename_i hp
    rw [List.isPrefixOf_iff_prefix] at hp
    obtain ⟨t, rfl⟩ := hp
    cases q
    simp
  · cases q
/-- The number of a text of digits. -/
def dcN (v : Bs) : Nat := v.foldl (fun n b => 10 * n + (b.toNat - 48)) 0
theorem dcN_snoc (v : Bs) (b : UInt8) : dcN (v ++ [b]) = 10 * dcN v + (b.toNat - 48) := by
  unfold dcN; rw [List.foldl_append]; rfl
theorem dig_cases {b : UInt8} (h : dgtB b = true) : 48 ≤ b.toNat ∧ b.toNat ≤ 57 := by
  unfold dgtB at h
  simp only [Bool.and_eq_true, decide_eq_true_eq] at h
  omega
theorem snoc_of {v : Bs} (h : v ≠ []) : ∃ u b, v = u ++ [b] := ⟨v.dropLast, v.getLast h, (List.dropLast_concat_getLast h).symm⟩
theorem dcN_pos : ∀ (n : Nat) (v : Bs), v.length ≤ n → v ≠ [] → v.all dgtB = true → at8 v 0 ≠ 48 → 0 < dcN v := by
  intro n
  induction n with
  | zero => intro v hl hv; exact absurd (List.length_eq_zero_iff.1 (by omega)) hv
  | succ n ih =>
    intro v hl hv ha h0
    obtain ⟨u, b, rfl⟩ := snoc_of hv
    rw [List.all_append, Bool.and_eq_true] at ha
    rw [dcN_snoc]
    by_cases hu : u = []
    · subst hu
      have hb := dig_cases (b := b) (by simpa using ha.2)
      have : at8 ([] ++ [b]) 0 = (b.toNat : Int) := rfl
      rw [this] at h0
      show 0 < 10 * 0 + _
      omega
    · have e : at8 (u ++ [b]) 0 = at8 u 0 := by
        unfold at8
        cases u with
        | nil => exact absurd rfl hu
        | cons x u => rfl
      rw [e] at h0
      have := ih u (by rw [List.length_append, List.length_singleton] at hl; omega) hu ha.1 h0
      omega
theorem dec_digit {b : UInt8} (h : dgtB b = true) : UInt8.ofNat (48 + (b.toNat - 48)) = b := by
  have := dig_cases h
  rw [show 48 + (b.toNat - 48) = b.toNat by omega]
  simp
theorem decDigits_ten (n : Nat) (h : ¬ n < 10) : Lib.decDigits n = Lib.decDigits (n / 10) ++ [UInt8.ofNat (48 + n % 10)] := by
  rw [Lib.decDigits, dif_neg h]
theorem dec_back : ∀ (n : Nat) (v : Bs), v.length ≤ n → v ≠ [] → v.all dgtB = true → (at8 v 0 ≠ 48 ∨ v.length = 1) → Lib.decDigits (dcN v) = v := by
  intro n
  induction n with
  | zero => intro v hl hv; exact absurd (List.length_eq_zero_iff.1 (by omega)) hv
  | succ n ih =>
    intro v hl hv ha h0
    obtain ⟨u, b, rfl⟩ := snoc_of hv
    rw [List.all_append, Bool.and_eq_true] at ha
    have hb : dgtB b = true := by simpa using ha.2
    have hb' := dig_cases hb
    rw [dcN_snoc]
    by_cases hu : u = []
    · subst hu
      show Lib.decDigits (10 * 0 + _) = _
      rw [Nat.mul_zero, Nat.zero_add, Lib.decDigits_one (by omega), dec_digit hb]; rfl
    · have hul : 0 < u.length := List.length_pos_iff.2 hu
      have e : at8 (u ++ [b]) 0 = at8 u 0 := by
        unfold at8
        cases u with
        | nil => exact absurd rfl hu
        | cons x u => rfl
      have h1 : at8 u 0 ≠ 48 := by
        rcases h0 with h0 | h0
        · rwa [e] at h0
        · rw [List.length_append, List.length_singleton] at h0; omega
      have hp := dcN_pos u.length u (Nat.le_refl _) hu ha.1 h1
      rw [decDigits_ten _ (by omega), show (10 * dcN u + (b.toNat - 48)) / 10 = dcN u by omega, show (10 * dcN u + (b.toNat - 48)) % 10 = b.toNat - 48 by omega, dec_digit hb, ih u (by rw [List.length_append, List.length_singleton] at hl; omega) hu ha.1 (.inl h1)]
theorem dec_head : ∀ (n : Nat), 0 < n → at8 (Lib.decDigits n) 0 ≠ 48 := by
  intro n
  induction n using Nat.strongRecOn with
  | ind n ih =>
    intro h
    by_cases h10 : n < 10
    · rw [Lib.decDigits_one h10]
      show ((UInt8.ofNat (48 + n)).toNat : Int) ≠ 48
      rw [UInt8.toNat_ofNat', Nat.mod_eq_of_lt (by omega)]; omega
    · rw [decDigits_ten n h10]
      have := ih (n / 10) (by omega) (by omega)
      have hl : 0 < (Lib.decDigits (n / 10)).length := by
        by_cases q : n / 10 < 10
        · rw [Lib.decDigits_one q]; simp
        · rw [decDigits_ten _ q]; simp
      generalize Lib.decDigits (n / 10) = u at *
      cases u with
      | nil => simp at hl
      | cons x u => exact this
theorem decB_back {v : Bs} (h : decB v = true) : Lib.decDigits (dcN v) = v ∧ 1 ≤ v.length ∧ v.length ≤ 4 ∧ v.all dgtB = true := by
  unfold decB at h
  simp only [Bool.and_eq_true, decide_eq_true_eq, Bool.not_eq_true'] at h
  obtain ⟨h1, h2, h3, h4⟩ := h
  have hv : v ≠ [] := by rintro rfl; simp at h1
  refine ⟨dec_back v.length v (Nat.le_refl _) hv h4 ?_, h1, h2, h4⟩
  by_cases q : at8 v 0 = 48
  · right
    rw [decide_eq_true q, Bool.true_and, Bool.not_eq_false', beq_iff_eq] at h3
    rw [h3]; rfl
  · exact .inl q
theorem decB_of {v : Bs} (h1 : 1 ≤ v.length) (h2 : v.length ≤ 4) (h4 : v.all dgtB = true) (h5 : Lib.decDigits (dcN v) = v) : decB v = true := by
  unfold decB
  rw [decide_eq_true h1, decide_eq_true h2, h4, Bool.true_and, Bool.true_and, Bool.and_true]
  by_cases q : at8 v 0 = 48
  · rw [decide_eq_true q]
    have : v = [48] := by
      by_cases hn : 0 < dcN v
      · have := dec_head _ hn
        rw [h5] at this
        exact absurd q this
      · rw [← h5, show dcN v = 0 by omega, Lib.decDigits_one (by omega)]; rfl
    rw [this]; rfl
  · rw [decide_eq_false q]; rfl
theorem dcN_fin : ∀ k : Fin 100, dcN (Lib.decDigits k.val) = k.val := by decide +kernel
/-- May a text stand behind the head of the i-th line? -/
def vOk (i : Nat) (v : Bs) : Bool := if i = 1 then v == [121, 101, 115] || v == [110, 111] else if i = 8 then decB v else true
def hdGood (ls : List Bs) (i : Nat) : Bool := match ls[i]? with
  | none => false
  | some l => match cutP (headsL.getD i []) l with
    | none => false
    | some v => vOk i v
def hdV (ls : List Bs) (i : Nat) : Bs := (ls.getD i []).drop (headsL.getD i []).length
/-- The entry of a line. -/
def entR (l : Bs) : Option Pr := match cutP kEntry l with
  | none => none
  | some r => if before 58 r < r.length then some (r.take (before 58 r), r.drop (before 58 r + 1)) else none
def hdBad (ls : List Bs) : Option Nat := (List.range 9).find? fun i => !hdGood ls i
def entBad (es : List Bs) : Option Nat := (List.range es.length).find? fun i => (entR (es.getD i [])).isNone
def parY (ls : List Bs) : StyT := ⟨hdV ls 0, hdV ls 1 == [121, 101, 115], hdV ls 2, hdV ls 3, hdV ls 4, hdV ls 5, hdV ls 6, hdV ls 7, dcN (hdV ls 8), (ls.drop 9).filterMap entR⟩
/-- The style of some lines; the line that is wrong; the error. -/
def parL (ls : List Bs) : StyT × Int × Int := match hdBad ls with
  | some i => (zeroY, i + 1, 5)
  | none => match entBad (ls.drop 9) with
    | some i => (zeroY, i + 10, 5)
    | none => if styE (parY ls) = 0 then (parY ls, 0, 0) else (zeroY, 0, styE (parY ls))
theorem range_find {n : Nat} {f : Nat → Bool} {i : Nat} (hi : i < n) (h : ∀ j, j < i → f j = false) (hf : f i = true) : (List.range n).find? f = some i := by
  rw [List.find?_range_eq_some]
  exact ⟨hf, List.mem_range.2 hi, fun j hj => by rw [h j hj]; rfl⟩
theorem range_none {n : Nat} {f : Nat → Bool} (h : ∀ j, j < n → f j = false) : (List.range n).find? f = none := by
  rw [List.find?_eq_none]
  intro j hj
  rw [h j (List.mem_range.1 hj)]; simp
theorem parL_head {ls : List Bs} {i : Nat} (hi : i < 9) (h : ∀ j, j < i → hdGood ls j = true) (hf : hdGood ls i = false) : parL ls = (zeroY, (i : Int) + 1, 5) := by
  have : hdBad ls = some i := range_find hi (fun j hj => by rw [h j hj]; rfl) (by rw [hf]; rfl)
  unfold parL; rw [this]
theorem parL_ent {ls : List Bs} {i : Nat} (h : ∀ j, j < 9 → hdGood ls j = true) (hi : i < (ls.drop 9).length) (he : ∀ j, j < i → (entR ((ls.drop 9).getD j [])).isNone = false) (hf : (entR ((ls.drop 9).getD i [])).isNone = true) : parL ls = (zeroY, (i : Int) + 10, 5) := by
  have e1 : hdBad ls = none := range_none (fun j hj => by rw [h j hj]; rfl)
  have e2 : entBad (ls.drop 9) = some i := range_find hi he hf
  unfold parL; rw [e1]; simp only; rw [e2]
theorem parL_end {ls : List Bs} (h : ∀ j, j < 9 → hdGood ls j = true) (he : ∀ j, j < (ls.drop 9).length → (entR ((ls.drop 9).getD j [])).isNone = false) : parL ls = if styE (parY ls) = 0 then (parY ls, 0, 0) else (zeroY, 0, styE (parY ls)) := by
  have e1 : hdBad ls = none := range_none (fun j hj => by rw [h j hj]; rfl)
  have e2 : entBad (ls.drop 9) = none := range_none he
  unfold parL; rw [e1]; simp only; rw [e2]
end Go.Proofs.YtafcngdnngpdnaaGreatDoor
