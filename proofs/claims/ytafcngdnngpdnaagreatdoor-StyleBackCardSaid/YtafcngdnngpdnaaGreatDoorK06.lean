/- A range over a string, with whatever memory beside its iterator. No condition. -/
import Derived.Test.YtafcngdnngpdnaaGreatDoorK02
import Derived.Test.YtafcngdnngpdnaaGreatDoorK05
import Derived.Test.YtafcngdnngpdnaaGreatDoorK03
import Derived.Test.YtafcngdnngpdnaaGreatDoorK04
import Derived.Lib.OthersKept

set_option linter.all false
namespace Go.Proofs.YtafcngdnngpdnaaGreatDoor
open Go.RowKit

theorem run_next_k {P : Program} (w : World) (k : Nat) (s : ByteArray) (pos : Nat) (ty : TypeId) (hk : w.heap[k]? = some (.stringIter s pos)) (h : pos < s.size) :
    (Instr.next (.pointer (some ⟨k, 0, none⟩)) true ty).run P w = .ok (.tuple #[.bool true, .int .i64 pos, .int .i32 (dec s pos).1]) (w.iterAt k s (pos + (dec s pos).2.toNat)) := by
  rw [dec_eq]
  simp only [Instr.next, getObj, setObj, Sem.run_bind, Sem.run, hk, Result.andThen, h, if_true, World.iterAt, Int.toNat_natCast]
  simp [goInt, Sem.run, hk]
theorem run_next_k_end {P : Program} (w : World) (k : Nat) (s : ByteArray) (pos : Nat) (ty : TypeId) (hk : w.heap[k]? = some (.stringIter s pos)) (h : ¬ pos < s.size) :
    (Instr.next (.pointer (some ⟨k, 0, none⟩)) true ty).run P w = .ok (.tuple #[.bool false]) w := by
  simp [Instr.next, getObj, Sem.run, hk, h]
end Go.Proofs.YtafcngdnngpdnaaGreatDoor

/- strings.ContainsAny at every text and a short set of ASCII letters. Conditions: lengths. -/
set_option linter.all false
namespace Go.Proofs.YtafcngdnngpdnaaGreatDoor
open Go.RowKit

def encL (r : Int) : Bs := (Utf8.encode r).data.toList
theorem encode_bs (r : Int) : Utf8.encode r = bs (encL r) := rfl
theorem ofNat_big (n : Nat) (h : n < 256) (k : 128 ≤ n) : 128 ≤ ((UInt8.ofNat n).toNat : Int) := by
  rw [UInt8.toNat_ofNat', Nat.mod_eq_of_lt h]; omega
theorem encL_big (r : Int) (h : 128 ≤ r) : 2 ≤ (encL r).length ∧ (encL r).length ≤ 4 ∧ ∀ b ∈ encL r, 128 ≤ (b.toNat : Int) := by
  have hc : 128 ≤ (if Utf8.valid r then r.toNat else Utf8.runeError) ∧ (if Utf8.valid r then r.toNat else Utf8.runeError) ≤ 1114111 := by
    split
    · rename_i hv; unfold Utf8.valid at hv; simp only [Bool.or_eq_true, Bool.and_eq_true, decide_eq_true_eq] at hv; omega
    · unfold Utf8.runeError; omega
  unfold encL Utf8.encode
  generalize (if Utf8.valid r then r.toNat else Utf8.runeError) = c at *
  simp only
  rw [if_neg (by omega)]
  split
  · refine ⟨by simp, by simp, ?_⟩
    intro b hb
    simp only [List.mem_cons, List.not_mem_nil, or_false] at hb
    rcases hb with rfl | rfl <;> exact ofNat_big _ (by omega) (by omega)
  split
  · refine ⟨by simp, by simp, ?_⟩
    intro b hb
    simp only [List.mem_cons, List.not_mem_nil, or_false] at hb
    rcases hb with rfl | rfl | rfl <;> exact ofNat_big _ (by omega) (by omega)
  · refine ⟨by simp, by simp, ?_⟩
    intro b hb
    simp only [List.mem_cons, List.not_mem_nil, or_false] at hb
    rcases hb with rfl | rfl | rfl | rfl <;> exact ofNat_big _ (by omega) (by omega)
theorem at8_mem (l : Bs) (j : Nat) (h : j < l.length) : ∃ b ∈ l, at8 l j = (b.toNat : Int) := ⟨l[j], List.getElem_mem h, at8_get l j h⟩
def Ascii (cs : Bs) : Prop := ∀ b ∈ cs, (b.toNat : Int) < 128
theorem indexByte_not (c : UInt8) (l : Bs) (h : c ∉ l) : Lib.indexByte l c = -1 := by
  have h1 := indexByte_contains c l
  have h2 := Lib.indexByte_ge l c
  have h3 : l.contains c = false := by simpa using h
  rw [h3] at h1
  simp at h1; omega

set_option maxRecDepth 100000 in
set_option maxHeartbeats 1600000 in
theorem irune_big (cs : Bs) (r : Int) (w : World) (hr : 128 ≤ r) (hr2 : r ≤ 2000000) (hne : (r == 65533) = false) (hcs : Ascii cs) (hl : cs.length ≤ 1000) :
    Calls Tryz.prog 77 #[.string (bs cs), .int .i32 r] w fun e w' => e = .returned (.int .i64 (-1)) ∧ ∃ n, w' = w.drewN n := by
  obtain ⟨v, hv⟩ : ∃ v, Lib.validRune r = v := ⟨_, rfl⟩
  cases v
  · go_enter Tryz.func77, Tryz.ntmps77
    go_wp2_with (go_at_call 104; refine (Tryz.utf8_ValidRune _ _).mono ?_; rintro e w' ⟨rfl, rfl⟩)
    go_ret
    exact ⟨rfl, 0, rfl⟩
  · obtain ⟨e1, e2, e3⟩ := encL_big r hr
    have hen := encode_bs r
    generalize encL r = rs at *
    have hlast : rs.length - 1 < rs.length := by omega
    obtain ⟨b, hb, hbe⟩ := at8_mem rs (rs.length - 1) hlast
    have i0 := run_ix (P := Tryz.prog) (t := 9) Tryz.underlying9 rs (rs.length - 1) hlast (rs.length - 1) (by omega)
    have hbig := e3 b hb
    have hbl : (b.toNat : Int) < 256 := by have := b.toNat_lt; omega
    have hnot : ∀ k, Lib.indexByte (cs.drop k) b = -1 := fun k => indexByte_not b _ (fun q => by have := hcs b (List.mem_of_mem_drop q); omega)
    obtain ⟨c, hc⟩ : ∃ c : Int, c = b.toNat := ⟨_, rfl⟩
    rw [hbe, ← hc] at i0
    have hb1 : ∀ x : Bs, Lib.indexByte x b = -1 → ∀ w, Calls Tryz.prog 57 #[.string (bs x), .int .u8 c] w fun e w' => e = .returned (.int .i64 (-1)) ∧ w' = w := by
      intro x hx w
      refine (Tryz.strings_IndexByte (bs x) c w).mono ?_
      rintro e w' ⟨rfl, rfl⟩
      refine ⟨?_, rfl⟩
      rw [hc, Int.toNat_natCast, show b.toNat.toUInt8 = b from by simp, bs_data, hx]
    have HB := Lib.hid hb1
    rw [← hc] at hbig hbl
    clear hbe hb e3 hc hb1
    by_cases hlt : rs.length - 1 < cs.length
    · have i1 := run_ix (P := Tryz.prog) (t := 9) Tryz.underlying9 cs (rs.length - 1) hlt (rs.length - 1) (by omega)
      have hsm : at8 cs (rs.length - 1) < 128 := by obtain ⟨b', hb', e⟩ := at8_mem cs _ hlt; rw [e]; exact hcs b' hb'
      have hsm0 := at8_lo cs (rs.length - 1)
      generalize at8 cs (rs.length - 1) = c' at *
      have sl := run_from (P := Tryz.prog) (t := 9) Tryz.underlying9 cs (rs.length) (by omega) (rs.length - 1 + 1) (by omega) _ rfl
      have sl2 := run_from (P := Tryz.prog) (t := 9) Tryz.underlying9 cs (rs.length) (by omega) (rs.length) rfl _ rfl
      have HN := Lib.hid (HB.out _ (hnot rs.length))
      clear hnot HB
      go_enter Tryz.func77, Tryz.ntmps77
      go_wp2_with (first | (go_at_call 104; refine (Tryz.utf8_ValidRune _ _).mono ?_; rintro e w' ⟨rfl, rfl⟩))
      go_step3
      go_wp2_with (first | (go_at_call 104; refine (Tryz.utf8_ValidRune _ _).mono ?_; rintro e w' ⟨rfl, rfl⟩))
      refine wp_loop_rounds 1 ?_
      rw [rounds_succ]
      go_wp2_with fail
      go_step3
      go_wp2_with fail
      go_quiet (fail)
      obtain ⟨w2, hw2⟩ : ∃ x, x = w'.drewN nq := ⟨_, rfl⟩
      rw [← hw2]
      have HW2 := Lib.hid hw2
      clear hw2
      go_wp2_with fail
      have hsum : IntKind.i64.wrap (↑(List.length rs) - 1 + 1) = ↑(List.length rs) := IntWalk.i64_in _ (by omega) |>.trans (by omega)
      have hsum2 : (0 : Int) ≤ ↑(List.length rs) := by omega
      go_quiet ((go_at_call 57; exact Calls.quiet_of_same (HN.out _)))
      go_wp2_with fail
      rw [Exit.noGoto_ret]
      go_wp2_with fail
      rw [Exit.noGoto_ret]
      go_wp2_with fail
      go_ret
      exact ⟨rfl, by rw [HW2.out]; exact drewN_more⟩
    · go_enter Tryz.func77, Tryz.ntmps77
      go_wp2_with (go_at_call 104; refine (Tryz.utf8_ValidRune _ _).mono ?_; rintro e w' ⟨rfl, rfl⟩)
      go_step3
      go_wp2_with fail
      refine wp_loop_rounds 1 ?_
      rw [rounds_succ]
      go_wp2_with fail
      try rw [Exit.noGoto_ret]
      try rw [Exit.noGoto_ret]
      go_ret
      exact ⟨rfl, 0, rfl⟩

theorem dec_ascii (l : Bs) (i : Nat) (h : at8 l i < 128) : dec (bs l) i = (at8 l i, 1) := by unfold dec; rw [byteAt_bs, if_pos h]
theorem next_iter {P : Program} (w : World) (l : Bs) (pos : Nat) (ty : TypeId) (h : pos < l.length) (c n : Int) (hd : dec (bs l) pos = (c, n)) :
    (Instr.next (.pointer (some ⟨w.heap.size, 0, none⟩)) true ty).run P (w.iter (bs l) pos) = .ok (.tuple #[.bool true, .int .i64 pos, .int .i32 c]) (w.iter (bs l) (pos + n.toNat)) := by
  rw [run_next_any w (bs l) pos ty h]
  rw [dec_eq] at hd
  obtain ⟨h1, h2⟩ := Prod.mk.injEq _ _ _ _ ▸ hd
  rw [h1, ← h2, Int.toNat_natCast]

set_option maxRecDepth 100000 in
set_option maxHeartbeats 1600000 in
theorem irune_err (cs : Bs) (w : World) (hcs : Ascii cs) (hl : cs.length ≤ 1000) :
    Calls Tryz.prog 77 #[.string (bs cs), .int .i32 65533] w fun e w' => e = .returned (.int .i64 (-1)) ∧ Kept w w' := by
  go_enter Tryz.func77, Tryz.ntmps77
  go_wp2_with fail
  go_loopw [5] (fun u wr => ∃ pos : Nat, pos ≤ cs.length ∧ wr = w.iter (bs cs) pos) (fun u wr => cs.length - wr.iterPos w.heap.size)
  case atStart => exact ⟨0, Nat.zero_le _, rfl⟩
  case round =>
    obtain ⟨pos, hp, rfl⟩ := hrel
    by_cases hlt : pos < cs.length
    · have hsm : at8 cs pos < 128 := by obtain ⟨b', hb', e⟩ := at8_mem cs _ hlt; rw [e]; exact hcs b' hb'
      have hsm0 := at8_lo cs pos
      have nx := fun ty => next_iter (P := Tryz.prog) w cs pos ty hlt _ _ (dec_ascii cs pos hsm)
      generalize at8 cs pos = c at *
      have hne : (c == 65533) = false := by rw [beq_eq_false_iff_ne]; omega
      go_wp2_with fail
      go_roundw
      case rel => exact ⟨pos + 1, by omega, rfl⟩
      case measure => simp; omega
    · have nx := fun ty => run_next_end (P := Tryz.prog) w (bs cs) pos ty hlt
      go_wp2_with fail
      go_ret
      exact ⟨rfl, kept_alloc _ _⟩
end Go.Proofs.YtafcngdnngpdnaaGreatDoor

/- Collations in plain Lean: letters, rules, errors, keys. No condition. -/
set_option linter.all false
namespace Go.Proofs.YtafcngdnngpdnaaGreatDoor
open Go.RowKit

/-- The letters of a text. -/
def ptsL (l : Bs) : List Int := (points (bs l)).map (·.1)
/-- Is a text a rule text? -/
def ruleB (l : Bs) : Bool := decide (1 ≤ l.length) && (decide (l.length ≤ 200) && (validB (bs l) && !(l.any (fun b => b == 32 || b == 10))))
/-- Letters put to others one by one, unless one was there. -/
def addA : List Int → List Int → Option (List Int)
  | l, [] => some l
  | l, x :: xs => if l.contains x = true then none else addA (l ++ [x]) xs
structure ColT where
  ranks : List Pr
  order : List Bs
  ignore : Bs
def zeroC : ColT := ⟨[], [], []⟩
/-- The first error of the elements of Order, and the letters. -/
def ordC : List Int → List Bs → Int × List Int
  | l, [] => (0, l)
  | l, s :: ss => if ruleB s = false then (17, l) else match addA l (ptsL s) with
    | none => (7, l)
    | some l' => ordC l' ss
def rnkC : List Int → List Pr → Int × List Int
  | l, [] => (0, l)
  | l, p :: ps => if ruleB p.1 = false ∨ ruleB p.2 = false then (17, l) else if 1 < (ptsL p.1).length ∨ 4 < (ptsL p.2).length then (5, l) else match addA l (ptsL p.1) with
    | none => (7, l)
    | some l' => rnkC l' ps
def ignC (l : List Int) (s : Bs) : Int := if s = [] then 0 else if ruleB s = false then 17 else match addA l (ptsL s) with
  | none => 7
  | some _ => 0
/-- The error of a collation. -/
def colE (c : ColT) : Int :=
  if 128 < c.order.length ∨ 128 < c.ranks.length then 3
  else if (ordC [] c.order).1 ≠ 0 then (ordC [] c.order).1
  else if (rnkC (ordC [] c.order).2 c.ranks).1 ≠ 0 then (rnkC (ordC [] c.order).2 c.ranks).1
  else ignC (rnkC (ordC [] c.order).2 c.ranks).2 c.ignore
/-- The words of a line. -/
def wordsB (l : Bs) : List Bs := (splitC 32 l).filter (fun x => !x.isEmpty)
def kOrder : Bs := [111, 114, 100, 101, 114]
def kAs : Bs := [97, 115]
def kIgnore : Bs := [105, 103, 110, 111, 114, 101]
/-- A line of words put to a collation, if it has a form. -/
def addW (c : ColT) : List Bs → Option ColT
  | [] => none
  | w :: ws => if w = kOrder ∧ ws ≠ [] then some { c with order := c.order ++ ws }
    else match ws with
      | [a, b] => if w = kAs then some { c with ranks := c.ranks ++ [(a, b)] } else none
      | [a] => if w = kIgnore then some { c with ignore := c.ignore ++ a } else none
      | _ => none
/-- The collation of lines: with the line and the error. -/
def colR : List Bs → Nat → ColT → ColT × Int × Int
  | [], _, c => (c, 0, 0)
  | l :: ls, i, c => if wordsB l = [] then colR ls (i + 1) c else match addW c (wordsB l) with
    | none => (zeroC, (i : Int) + 1, 5)
    | some c' => if colE c' ≠ 0 then (zeroC, (i : Int) + 1, colE c') else colR ls (i + 1) c'
def rankLine (p : Pr) : Bs := [97, 115, 32] ++ p.1 ++ [32] ++ p.2
/-- The lines of a collation. -/
def colL (c : ColT) : List Bs := (if c.order = [] then [] else [[111, 114, 100, 101, 114, 32] ++ Lib.join c.order [32]]) ++ c.ranks.map rankLine ++ (if c.ignore = [] then [] else [[105, 103, 110, 111, 114, 101, 32] ++ c.ignore])
def colS (c : ColT) : Bs := if colE c = 0 then joinLn (colL c) else []
/-- The index of the first element of Order with a letter. -/
def grpI (c : ColT) (x : Int) : Option Nat := c.order.findIdx? fun s => (ptsL s).contains x
def rankI (c : ColT) (x : Int) : Int := if x = 32 then 0 else match grpI c x with
  | some i => (i : Int) + 1
  | none => (c.order.length : Int) + 1 + x
/-- The letters as which a letter is sorted. -/
def valI (c : ColT) (x : Int) : Option (List Int) := (c.ranks.find? fun p => ptsL p.1 == [x]).map fun p => ptsL p.2
def keyI1 (c : ColT) (x : Int) : List Int := if (ptsL c.ignore).contains x = true then [] else match valI c x with
  | some v => v.map (rankI c)
  | none => [rankI c x]
def keyI (c : ColT) (s : Bs) : List Int := (ptsL s).flatMap (keyI1 c)
/-- How lists of numbers compare. -/
def cmpI : List Int → List Int → Int
  | [], [] => 0
  | [], _ => -1
  | _, [] => 1
  | x :: xs, y :: ys => if x < y then -1 else if y < x then 1 else cmpI xs ys
def cmpB (a b : Bs) : Int := cmpI (a.map fun x => (x.toNat : Int)) (b.map fun x => (x.toNat : Int))
def cmpC (c : ColT) (a b : Bs) : Int := if cmpI (keyI c a) (keyI c b) ≠ 0 then cmpI (keyI c a) (keyI c b) else cmpB a b
def iniC (c : ColT) : List Int → Bs
  | [] => []
  | x :: xs => if (ptsL c.ignore).contains x = true then iniC c xs else match valI c x with
    | some [] => []
    | some (y :: _) => iniG c y
    | none => iniG c x
where iniG (c : ColT) (y : Int) : Bs := match grpI c y with
    | some i => encL ((ptsL (c.order.getD i [])).headD 0)
    | none => encL y
end Go.Proofs.YtafcngdnngpdnaaGreatDoor
