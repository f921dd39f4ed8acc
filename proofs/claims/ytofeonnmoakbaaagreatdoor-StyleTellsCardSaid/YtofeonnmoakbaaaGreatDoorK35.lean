/- person.Initials. Conditions: the length of the given name. -/
import Derived.Test.YtofeonnmoakbaaaGreatDoorK34
import Derived.Test.YtofeonnmoakbaaaGreatDoorK02
import Derived.Laws.Cover4

set_option linter.all false
namespace Go.Proofs.YtofeonnmoakbaaaGreatDoor
open Go.RowKit

def runesL (ns : List Int) : Bs := ns.flatMap encL
theorem runesL_snoc (ns : List Int) (c : Int) : runesL (ns ++ [c]) = runesL ns ++ encL c := by simp [runesL]
theorem runesL_two (ns : List Int) (c d : Int) : runesL (ns ++ [c, d]) = runesL ns ++ encL c ++ encL d := by simp [runesL]
theorem foldl_runes : ∀ (ns : List Int) (x : Bs), ns.foldl (fun r n => r ++ Utf8.encode n) (bs x) = bs (x ++ runesL ns)
  | [], x => by simp [runesL]
  | n :: ns, x => by
    rw [List.foldl_cons, encode_bs, bs_append, foldl_runes ns]
    simp [runesL]
theorem runesBytes_bs (ns : List Int) : runesBytes ns = bs (runesL ns) := by
  unfold runesBytes; rw [empty_bs, foldl_runes]; simp
def runeCells (ns : List Int) : List Value := ns.map (Value.int .i32)
theorem ini_step (g : Bs) (pos : Nat) (h : pos < g.length) (c n : Int) (hd : dec (bs g) pos = (c, n)) (bg iw sm : Bool) :
    (c = 32 ∧ n = 1 ∧ ini (g.drop pos) bg iw sm = ini (g.drop (pos + 1)) true false sm) ∨
    (c = 45 ∧ n = 1 ∧ ini (g.drop pos) bg iw sm = ini (g.drop (pos + 1)) true iw sm) ∨
    (c ≠ 32 ∧ c ≠ 45 ∧ ini (g.drop pos) bg iw sm = if bg then lead iw sm ++ (encL c ++ [46]) ++ ini (g.drop (pos + n.toNat)) false true true else ini (g.drop (pos + n.toNat)) false iw sm) := by
  have hp : pieceI (g.drop pos) = encL c ++ [46] := by unfold pieceI; rw [dec_shift, hd]
  have hcons : g.drop pos = g[pos] :: g.drop (pos + 1) := List.drop_eq_getElem_cons h
  have ha := at8_get g pos h
  by_cases hlo : at8 g pos < 128
  · have hdd := dec_ascii g pos hlo
    rw [hd] at hdd
    obtain ⟨rfl, rfl⟩ := Prod.mk.injEq _ _ _ _ ▸ hdd
    rw [hcons] at hp ⊢
    rw [ini_cons]
    have k32 := u8_int g[pos] 32 (by decide)
    have k45 := u8_int g[pos] 45 (by decide)
    rw [← ha] at k32 k45
    by_cases q : g[pos] = 32
    · left; exact ⟨k32.2 q, rfl, by rw [if_pos q]⟩
    by_cases q2 : g[pos] = 45
    · right; left; exact ⟨k45.2 q2, rfl, by rw [if_neg q, if_pos q2]⟩
    · right; right
      refine ⟨fun e => q (k32.1 e), fun e => q2 (k45.1 e), ?_⟩
      rw [if_neg q, if_neg q2, hp]; rfl
  · right; right
    obtain ⟨hc, hbytes⟩ := dec_high (bs g) pos (by rw [byteAt_bs]; omega)
    rw [hd] at hc hbytes
    simp only at hc hbytes
    have hb := dec_bounds (bs g) pos h
    rw [hd] at hb
    simp only [bs_size] at hb
    refine ⟨by omega, by omega, ?_⟩
    have hq : g[pos] ≠ 32 := fun e => by rw [e] at ha; have : ((32 : UInt8).toNat : Int) = 32 := by decide
                                         omega
    have hq2 : g[pos] ≠ 45 := fun e => by rw [e] at ha; have : ((45 : UInt8).toNat : Int) = 45 := by decide
                                          omega
    have hsplit : g.drop (pos + 1) = (g.drop (pos + 1)).take (n.toNat - 1) ++ g.drop (pos + n.toNat) := by
      conv => lhs; rw [← List.take_append_drop (n.toNat - 1) (g.drop (pos + 1))]
      rw [List.drop_drop, show pos + 1 + (n.toNat - 1) = pos + n.toNat from by omega]
    have hnot : ∀ x ∈ (g.drop (pos + 1)).take (n.toNat - 1), 128 ≤ (x.toNat : Int) := by
      intro x hx
      obtain ⟨j, hj, rfl⟩ := List.getElem_of_mem hx
      simp only [List.length_take, List.length_drop] at hj
      have hbj := hbytes (1 + j) (by omega)
      rw [byteAt_bs, ← Nat.add_assoc, at8_get g (pos + 1 + j) (by omega)] at hbj
      simp only [List.getElem_take, List.getElem_drop]
      exact hbj
    have hsk : ∀ iw sm, ini (g.drop (pos + 1)) false iw sm = ini (g.drop (pos + n.toNat)) false iw sm := by
      intro iw sm
      rw [hsplit]
      exact ini_skip _ _ iw sm (fun q => by have := hnot _ q; revert this; decide) (fun q => by have := hnot _ q; revert this; decide)
    rw [hcons] at hp ⊢
    rw [ini_cons, if_neg hq, if_neg hq2, hp, hsk, hsk]; rfl

theorem Tryz.infoRune : (Tryz.prog.info? 21).map (fun i => (i.zero, i.size, i.bytes)) = some (some (.int .i32 0), 1, 4) := by kernel_rfl

/-- What an append on the call's own row leaves of the rest. -/
theorem grown_rest {w w' : World} {base k : Nat} {e : TypeId} {size : Nat} {v : Value} {n : Nat} {xs : List Value} {o : Obj} (h : w.ownsRow base e size v n xs) (hg : (w.alloc o).grownBy w' v.ownBlock) (hk : k < base) (hb : base ≤ w.heap.size) :
    w'.heap[k]? = w.heap[k]? ∧ base ≤ w'.heap.size ∧ Below base w w' := by
  have hB : Below base w w' := ((Below.refl base w).alloc hb o).trans (grown_below (h.alloc o) hg (by simp; omega))
  exact ⟨hB.block k hk, by have := hB.size; omega, hB⟩
theorem own_iterAt {w : World} {base : Nat} {e : TypeId} {size : Nat} {v : Value} {n : Nat} {xs : List Value} (h : w.ownsRow base e size v n xs) (k : Nat) (hk : k < base) (s : ByteArray) (pos : Nat) : (w.iterAt k s pos).ownsRow base e size v n xs := by
  obtain ⟨h1, h2⟩ := h
  refine ⟨h1, ?_⟩
  rcases h2 with h2 | ⟨g, cap, cur, hv, hg, hh, r⟩
  · exact Or.inl h2
  · exact Or.inr ⟨g, cap, cur, hv, hg, by rw [Lib.iterAt_other _ _ _ _ _ (by omega)]; exact hh, r⟩

end Go.Proofs.YtofeonnmoakbaaaGreatDoor

/- Inverted of package person. Conditions: lengths. -/
set_option linter.all false
namespace Go.Proofs.YtofeonnmoakbaaaGreatDoor
open Go.RowKit

theorem ini_len : ∀ (l : Bs) (bg iw sm : Bool), (ini l bg iw sm).length ≤ 6 * l.length
  | [], _, _, _ => by simp [ini]
  | b :: r, bg, iw, sm => by
    rw [ini_cons]
    have h1 := ini_len r true false sm
    have h2 := ini_len r true iw sm
    have h3 := ini_len r false true true
    have h4 := ini_len r false iw sm
    have hp : (pieceI (b :: r)).length ≤ 5 := by unfold pieceI; have := encL_len (dec (bs (b :: r)) 0).1; simp; omega
    have hl : (if iw then [45] else if sm then [32] else ([] : Bs)).length ≤ 1 := by cases iw <;> cases sm <;> simp
    simp only [List.length_cons]
    split
    · omega
    split
    · omega
    split
    · simp only [List.length_append]; omega
    · omega
theorem initialsL_len (g : Bs) : (initialsL g).length ≤ 6 * g.length := by rw [initials_ini]; exact ini_len g _ _ _
def givenI (g : Bs) (i : Bool) : Bs := if i then initialsL g else g
def invL (f g p s : Bs) (i : Bool) : Bs := joinedL [p, f] ++ (if givenI g i = [] then [] else [44, 32] ++ givenI g i) ++ (if s = [] then [] else [44, 32] ++ s)

end Go.Proofs.YtofeonnmoakbaaaGreatDoor

/- The reference's Append, Next, pieces, Initials, Inverted. Conditions: lengths. -/
set_option linter.all false
namespace Go.Proofs.YtofeonnmoakbaaaGreatDoor
open Go.RowKit

/-- The state of the reference's division into pieces. -/
def PieceSt (c : UInt8) (t : Bs) (k fr : Nat) (xs : List Bs) : Prop :=
  (k ≤ t.length ∧ fr ≤ k ∧ xs = (runC c (t.take k)).1.filter nonE ∧ (t.take k).drop fr = (runC c (t.take k)).2) ∨ (k = t.length + 1 ∧ xs = piecesOf c t)
theorem PieceSt.start (c : UInt8) (t : Bs) : PieceSt c t 0 0 [] := .inl ⟨Nat.zero_le _, Nat.le_refl _, by simp [runC], by simp [runC]⟩
def addP (xs : List Bs) (y : Bs) : List Bs := xs ++ (if nonE y then [y] else [])
theorem filter_addP (xs : List Bs) (y : Bs) : (xs ++ [y]).filter nonE = addP (xs.filter nonE) y := by
  unfold addP; rw [List.filter_append]
  cases q : nonE y <;> simp [q]
theorem PieceSt.last {c : UInt8} {t : Bs} {fr : Nat} {xs : List Bs} (h : PieceSt c t t.length fr xs) : PieceSt c t (t.length + 1) (t.length + 1) (addP xs ((t.drop fr).take (t.length - fr))) ∧ fr ≤ t.length := by
  rcases h with ⟨_, h2, h3, h4⟩ | ⟨h, _⟩
  · rw [List.take_of_length_le (Nat.le_refl _)] at h3 h4
    refine ⟨.inr ⟨rfl, ?_⟩, h2⟩
    rw [List.take_of_length_le (by simp)]
    unfold piecesOf splitC
    rw [filter_addP, h3, h4]
  · omega
theorem PieceSt.comma {c : UInt8} {t : Bs} {k fr : Nat} {xs : List Bs} (h : PieceSt c t k fr xs) (hk : k < t.length) (hb : t[k] = c) : PieceSt c t (k + 1) (k + 1) (addP xs ((t.drop fr).take (k - fr))) ∧ fr ≤ k := by
  rcases h with ⟨h1, h2, h3, h4⟩ | ⟨h, _⟩
  · refine ⟨.inl ⟨by omega, Nat.le_refl _, ?_, ?_⟩, h2⟩
    · rw [take_next t k hk, runC_snoc, hb]
      rw [show (t.drop fr).take (k - fr) = (t.take k).drop fr from by rw [List.drop_take], h4, h3]
      simp only [stepC, if_true, filter_addP]
    · rw [take_next t k hk, runC_snoc, hb]
      rw [List.drop_of_length_le (by simp; omega)]
      simp [stepC]
  · omega
theorem PieceSt.other {c : UInt8} {t : Bs} {k fr : Nat} {xs : List Bs} (h : PieceSt c t k fr xs) (hk : k < t.length) (hb : t[k] ≠ c) : PieceSt c t (k + 1) fr xs ∧ fr ≤ k := by
  rcases h with ⟨h1, h2, h3, h4⟩ | ⟨h, _⟩
  · refine ⟨.inl ⟨by omega, by omega, ?_, ?_⟩, h2⟩
    · rw [take_next t k hk, runC_snoc]
      simp [stepC, hb, h3]
    · rw [take_next t k hk, runC_snoc, List.drop_append_of_le_length (by simp; omega), h4]
      simp [stepC, hb]
  · omega
theorem PieceSt.done {c : UInt8} {t : Bs} {k fr : Nat} {xs : List Bs} (h : PieceSt c t k fr xs) (hk : ¬ k ≤ t.length) : xs = piecesOf c t := by
  rcases h with ⟨h1, _⟩ | ⟨_, h⟩
  · omega
  · exact h
def StrsPost (xs : List Bs) (w : World) (e : Ending) (w' : World) : Prop := ∃ v, e = .returned v ∧ Strs w' v xs ∧ Kept w w'
theorem addP_nil (xs : List Bs) : addP xs [] = xs := by simp [addP, nonE]
theorem addP_one (xs : List Bs) (y : Bs) (h : y ≠ []) : addP xs y = xs ++ [y] := by simp [addP, nonE, h]

end Go.Proofs.YtofeonnmoakbaaaGreatDoor
