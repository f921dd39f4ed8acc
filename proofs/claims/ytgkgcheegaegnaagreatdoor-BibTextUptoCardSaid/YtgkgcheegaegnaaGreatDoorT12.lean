/- Plain law of initials: what a walk over code points gathers is what the pieces' first code points make. No condition. -/
import Derived.Test.YtgkgcheegaegnaaGreatDoorT10
import Derived.Test.YtgkgcheegaegnaaGreatDoorT11

set_option linter.all false
namespace Go.Proofs.YtgkgcheegaegnaaGreatDoor
open Go.RowKit

/-- The sign of a piece: its first code point and a period. -/
def pieceI (x : Bs) : Bs := encL (dec (bs x) 0).1 ++ [46]
/-- What is still to be written for the rest of a given name: begins: the next character begins a piece; inWord: the word has a piece already; some: something is written. -/
def ini : Bs → Bool → Bool → Bool → Bs
  | [], _, _, _ => []
  | b :: r, bg, iw, sm =>
    if b = 32 then ini r true false sm
    else if b = 45 then ini r true iw sm
    else if bg then (if iw then [45] else if sm then [32] else []) ++ pieceI (b :: r) ++ ini r false true true
    else ini r false iw sm
theorem ini_cons (b : UInt8) (r : Bs) (bg iw sm : Bool) : ini (b :: r) bg iw sm = if b = 32 then ini r true false sm else if b = 45 then ini r true iw sm
    else if bg then (if iw then [45] else if sm then [32] else []) ++ pieceI (b :: r) ++ ini r false true true else ini r false iw sm := rfl
/-- The pieces of a word, the initials of a word, of a given name. -/
def piecesOf (c : UInt8) (l : Bs) : List Bs := (splitC c l).filter nonE
def iniW (w : Bs) : Bs := Lib.join ((piecesOf 45 w).map pieceI) [45]
def initialsL (g : Bs) : Bs := joinedL ((piecesOf 32 g).map iniW)

theorem moreOf_shift (l : Bs) (i k : Nat) (a b : Int) : moreOf (bs (l.drop i)) k a b = moreOf (bs l) (i + k) a b := by
  unfold moreOf
  have e : byteAt (bs (l.drop i)) k = byteAt (bs l) (i + k) := by
    rw [byteAt_bs, byteAt_bs]; unfold at8; simp
  rw [e]
  have : ((bs (l.drop i)).size ≤ k) ↔ ((bs l).size ≤ i + k) := by simp; omega
  simp only [this]
theorem dec_shift (l : Bs) (i : Nat) : dec (bs (l.drop i)) 0 = dec (bs l) i := by
  have e : byteAt (bs (l.drop i)) 0 = byteAt (bs l) i := by rw [byteAt_bs, byteAt_bs]; unfold at8; simp
  unfold dec three four
  rw [e]
  simp only [moreOf_shift, Nat.zero_add]
theorem at8_left (x t : Bs) (k : Nat) (h : k < x.length) : at8 (x ++ t) k = at8 x k := by
  unfold at8; rw [List.getD_eq_getElem?_getD, List.getD_eq_getElem?_getD, List.getElem?_append_left h]
theorem at8_right (x t : Bs) : at8 (x ++ t) x.length = at8 t 0 := by
  unfold at8; rw [List.getD_eq_getElem?_getD, List.getD_eq_getElem?_getD, List.getElem?_append_right (Nat.le_refl _)]; simp
/-- A piece that ends before an ASCII letter, or at the end, is read as in the whole text. -/
theorem dec_cut (x t : Bs) (hx : 0 < x.length) (ht : t = [] ∨ at8 t 0 < 128) : dec (bs (x ++ t)) 0 = dec (bs x) 0 := by
  have e0 : byteAt (bs (x ++ t)) 0 = byteAt (bs x) 0 := by rw [byteAt_bs, byteAt_bs]; exact at8_left x t 0 hx
  have A : ∀ k a b, k < x.length → moreOf (bs (x ++ t)) k a b = moreOf (bs x) k a b := by
    intro k a b h
    unfold moreOf
    rw [byteAt_bs, byteAt_bs, at8_left x t k h]
    have : ((bs (x ++ t)).size ≤ k) ↔ ((bs x).size ≤ k) := by simp; omega
    simp only [this]
  have B : ∀ k a b, k = x.length → 128 ≤ a → moreOf (bs (x ++ t)) k a b = -1 := by
    intro k a b h ha
    subst h
    unfold moreOf
    rw [if_pos]
    rcases ht with rfl | ht
    · left; simp
    · right; left; rw [byteAt_bs, at8_right]; omega
  have C : ∀ k a b, x.length ≤ k → moreOf (bs x) k a b = -1 := by
    intro k a b h
    unfold moreOf
    rw [if_pos (.inl (by simpa using h))]
  have hl3 : 128 ≤ low3 (byteAt (bs x) 0) := by unfold low3; split <;> omega
  have hl4 : 128 ≤ low4 (byteAt (bs x) 0) := by unfold low4; split <;> omega
  unfold dec three four
  rw [e0]
  simp only [Nat.zero_add]
  rcases (show x.length = 1 ∨ x.length = 2 ∨ x.length = 3 ∨ 4 ≤ x.length by omega) with h | h | h | h
  · simp only [B 1 _ _ h.symm (Int.le_refl _), B 1 _ _ h.symm hl3, B 1 _ _ h.symm hl4, C 1 _ _ (by omega)]
    simp
  · simp only [A 1 _ _ (by omega), B 2 _ _ h.symm (Int.le_refl _), C 2 _ _ (by omega)]
    simp
  · simp only [A 1 _ _ (by omega), A 2 _ _ (by omega), B 3 _ _ h.symm (Int.le_refl _), C 3 _ _ (by omega)]
  · simp only [A 1 _ _ (by omega), A 2 _ _ (by omega), A 3 _ _ (by omega)]

theorem ini_skip (x t : Bs) (iw sm : Bool) (h1 : (32 : UInt8) ∉ x) (h2 : (45 : UInt8) ∉ x) : ini (x ++ t) false iw sm = ini t false iw sm := by
  induction x with
  | nil => rfl
  | cons b x ih =>
    rw [List.cons_append, ini_cons, if_neg (fun q => h1 (by rw [q]; simp)), if_neg (fun q => h2 (by rw [q]; simp))]
    rw [if_neg (by simp)]
    exact ih (fun q => h1 (by simp [q])) (fun q => h2 (by simp [q]))
def lead (iw sm : Bool) : Bs := if iw then [45] else if sm then [32] else []
theorem ini_piece (x t : Bs) (iw sm : Bool) (hx : x ≠ []) (h1 : (32 : UInt8) ∉ x) (h2 : (45 : UInt8) ∉ x) (ht : t = [] ∨ at8 t 0 < 128) :
    ini (x ++ t) true iw sm = lead iw sm ++ pieceI x ++ ini t false true true := by
  cases x with
  | nil => exact absurd rfl hx
  | cons b x =>
    have hd : pieceI ((b :: x) ++ t) = pieceI (b :: x) := by unfold pieceI; rw [dec_cut (b :: x) t (by simp) ht]
    rw [List.cons_append] at hd ⊢
    rw [ini_cons, if_neg (fun q => h1 (by rw [q]; simp)), if_neg (fun q => h2 (by rw [q]; simp)), if_pos rfl, hd,
      ini_skip x t true true (fun q => h1 (by simp [q])) (fun q => h2 (by simp [q]))]
    rfl

def TailOK (t : Bs) : Prop := t = [] ∨ ∃ r, t = 32 :: r
theorem TailOK.low {t : Bs} (h : TailOK t) : t = [] ∨ at8 t 0 < 128 := by
  rcases h with rfl | ⟨r, rfl⟩
  · exact .inl rfl
  · exact .inr (by show ((32 : UInt8).toNat : Int) < 128; decide)
theorem TailOK.same {t : Bs} (h : TailOK t) (bg iw sm : Bool) : ini t bg iw sm = ini t true false sm := by
  rcases h with rfl | ⟨r, rfl⟩
  · rfl
  · rw [ini_cons, ini_cons]; simp
theorem first_split (c : UInt8) (l : Bs) : c ∉ l ∨ ∃ a r, l = a ++ c :: r ∧ c ∉ a ∧ r.length < l.length := by
  rcases index_one l c with ⟨_, h⟩ | ⟨i, _, h2, h3, h4⟩
  · exact .inl h
  · exact .inr ⟨l.take i, l.drop (i + 1), h4, h3, by simp; omega⟩
def wordOut (iw sm : Bool) (ps : List Bs) : Bs := if ps = [] then [] else lead iw sm ++ Lib.join (ps.map pieceI) [45]
theorem join_two (sep x : Bs) (r : List Bs) : Lib.join (x :: r) sep = x ++ (if r = [] then [] else sep ++ Lib.join r sep) := by
  cases r with
  | nil => simp [Lib.join_one]
  | cons y r =>
    rw [Lib.join_cons, Lib.join_cons]
    simp [Lib.joinTail]
theorem pieces_none (c : UInt8) (l : Bs) (h : c ∉ l) : piecesOf c l = if l = [] then [] else [l] := by
  unfold piecesOf; rw [splitC_none c l h]
  by_cases q : l = []
  · subst q; rfl
  · rw [if_neg q]; simp [nonE, q]
theorem pieces_at (c : UInt8) (a r : Bs) (h : c ∉ a) : piecesOf c (a ++ c :: r) = (if a = [] then [] else [a]) ++ piecesOf c r := by
  unfold piecesOf; rw [splitC_at c a r h, List.filter_cons]
  by_cases q : a = []
  · subst q; rfl
  · rw [if_neg q, if_pos (by simp [nonE, q])]; rfl
theorem ini_word : ∀ (n : Nat) (w t : Bs) (iw sm : Bool), w.length ≤ n → (32 : UInt8) ∉ w → TailOK t →
    ini (w ++ t) true iw sm = wordOut iw sm (piecesOf 45 w) ++ ini t true false (sm || !(piecesOf 45 w).isEmpty)
  | n, w, t, iw, sm, hn, h32, ht => by
    rcases first_split 45 w with h | ⟨a, r, rfl, ha, hr⟩
    · rw [pieces_none 45 w h]
      by_cases q : w = []
      · subst q
        rw [if_pos rfl, List.nil_append, ht.same]
        simp [wordOut]
      · rw [if_neg q, ini_piece w t iw sm q h32 h ht.low, ht.same]
        simp [wordOut, Lib.join_one]
    · cases n with
      | zero => simp at hn
      | succ n =>
        have h32a : (32 : UInt8) ∉ a := fun q => h32 (by simp [q])
        have h32r : (32 : UInt8) ∉ r := fun q => h32 (by simp [q])
        rw [pieces_at 45 a r ha]
        by_cases q : a = []
        · subst q
          rw [if_pos rfl, List.nil_append, List.nil_append, List.cons_append, ini_cons, if_neg (by decide), if_pos rfl]
          exact ini_word n r t iw sm (by simp at hr hn; omega) h32r ht
        · rw [if_neg q, List.append_assoc, List.cons_append, ini_piece a (45 :: (r ++ t)) iw sm q h32a ha (.inr (by show ((45 : UInt8).toNat : Int) < 128; decide)),
            ini_cons, if_neg (by decide), if_pos rfl, ini_word n r t true true (by simp at hr hn; omega) h32r ht]
          by_cases z : piecesOf 45 r = []
          · rw [z]; simp [wordOut, Lib.join_one]
          · have e1 : wordOut true true (piecesOf 45 r) = [45] ++ Lib.join ((piecesOf 45 r).map pieceI) [45] := by unfold wordOut; rw [if_neg z]; rfl
            have e2 : wordOut iw sm ([a] ++ piecesOf 45 r) = lead iw sm ++ (pieceI a ++ ([45] ++ Lib.join ((piecesOf 45 r).map pieceI) [45])) := by
              unfold wordOut; rw [if_neg (by simp), List.singleton_append, List.map_cons, join_two, if_neg (by simpa using z)]
            rw [e1, e2]; simp
theorem pieceI_ne (x : Bs) : pieceI x ≠ [] := by unfold pieceI; simp
theorem iniW_nil (w : Bs) : iniW w = [] ↔ piecesOf 45 w = [] := by
  unfold iniW
  constructor
  · intro h
    cases hp : piecesOf 45 w with
    | nil => rfl
    | cons a r =>
      rw [hp, List.map_cons, join_two] at h
      simp [pieceI_ne] at h
  · intro h; rw [h]; rfl
def wsOf (g : Bs) : List Bs := ((splitC 32 g).map iniW).filter nonE
def seqOut (sm : Bool) (ws : List Bs) : Bs := if ws = [] then [] else lead false sm ++ Lib.join ws [32]
theorem wordOut_iniW (sm : Bool) (w : Bs) : wordOut false sm (piecesOf 45 w) = seqOut sm ([iniW w].filter nonE) := by
  unfold wordOut seqOut
  by_cases h : piecesOf 45 w = []
  · rw [if_pos h, (iniW_nil w).2 h]; rfl
  · have hn : iniW w ≠ [] := fun q => h ((iniW_nil w).1 q)
    have e : [iniW w].filter nonE = [iniW w] := by simp [nonE, hn]
    rw [if_neg h, e, if_neg (by simp), Lib.join_one]; rfl
theorem ini_all : ∀ (n : Nat) (g : Bs) (sm : Bool), g.length ≤ n → ini g true false sm = seqOut sm (wsOf g)
  | n, g, sm, hn => by
    rcases first_split 32 g with h | ⟨a, r, rfl, ha, hr⟩
    · have := ini_word g.length g [] false sm (Nat.le_refl _) h (.inl rfl)
      rw [List.append_nil] at this
      rw [this, wordOut_iniW]
      unfold wsOf; rw [splitC_none 32 g h]
      simp [ini]
    · cases n with
      | zero => simp at hn
      | succ n =>
        rw [ini_word a.length a (32 :: r) false sm (Nat.le_refl _) ha (.inr ⟨r, rfl⟩), ini_cons, if_pos rfl, ini_all n r _ (by simp at hr hn; omega), wordOut_iniW]
        unfold wsOf
        rw [splitC_at 32 a r ha, List.map_cons, List.filter_cons (x := iniW a) (xs := (splitC 32 r).map iniW)]
        by_cases h : piecesOf 45 a = []
        · have e : iniW a = [] := (iniW_nil a).2 h
          have e2 : (piecesOf 45 a).isEmpty = true := by simp [h]
          rw [e, e2, if_neg (by simp [nonE])]
          simp [seqOut, nonE]
        · have hn : iniW a ≠ [] := fun q => h ((iniW_nil a).1 q)
          have e2 : (piecesOf 45 a).isEmpty = false := by simpa using h
          have e : [iniW a].filter nonE = [iniW a] := by simp [nonE, hn]
          rw [e, e2, if_pos (by simp [nonE, hn])]
          generalize ((splitC 32 r).map iniW).filter nonE = ws
          have e3 : seqOut sm [iniW a] = lead false sm ++ iniW a := by unfold seqOut; rw [if_neg (by simp), Lib.join_one]
          have e4 : seqOut sm (iniW a :: ws) = lead false sm ++ (iniW a ++ (if ws = [] then [] else [32] ++ Lib.join ws [32])) := by unfold seqOut; rw [if_neg (by simp), join_two]
          rw [e3, e4]
          unfold seqOut
          by_cases z : ws = []
          · rw [if_pos z, if_pos z]; simp
          · rw [if_neg z, if_neg z]; simp [lead]
theorem initials_ini (g : Bs) : initialsL g = ini g true false false := by
  rw [ini_all g.length g false (Nat.le_refl _)]
  unfold initialsL joinedL seqOut piecesOf
  have e : ∀ xs : List Bs, ((xs.filter nonE).map iniW).filter nonE = (xs.map iniW).filter nonE := by
    intro xs
    induction xs with
    | nil => rfl
    | cons a r ih =>
      rw [List.filter_cons, List.map_cons, List.filter_cons (x := iniW a)]
      by_cases q : a = []
      · subst q
        have : iniW [] = [] := rfl
        rw [this, if_neg (by simp [nonE]), if_neg (by simp [nonE]), ih]
      · rw [if_pos (by simp [nonE, q]), List.map_cons, List.filter_cons (x := iniW a), ih]
  rw [e]
  by_cases z : wsOf g = []
  · rw [if_pos z]; unfold wsOf at z; rw [z]; rfl
  · rw [if_neg z]; rfl
end Go.Proofs.YtgkgcheegaegnaaGreatDoor

/- lines.Split, Indent, Trim, Join. Conditions: lengths. -/
set_option linter.all false
namespace Go.Proofs.YtgkgcheegaegnaaGreatDoor
open Go.RowKit

def SliP (xs : List Bs) (w : World) (e : Ending) (w' : World) : Prop := ∃ v, e = .returned v ∧ Strs w' v xs ∧ Kept w w'
/-- The lines of a text. -/
def linesL (s : Bs) : List Bs := (runC 10 s).1 ++ (if (runC 10 s).2 = [] then [] else [(runC 10 s).2])
def LineSt (t : Bs) (k fr : Nat) (xs : List Bs) : Prop := k ≤ t.length ∧ fr ≤ k ∧ xs = (runC 10 (t.take k)).1 ∧ (t.take k).drop fr = (runC 10 (t.take k)).2
theorem LineSt.start (t : Bs) : LineSt t 0 0 [] := ⟨Nat.zero_le _, Nat.le_refl _, by simp [runC], by simp [runC]⟩
theorem LineSt.feed {t : Bs} {k fr : Nat} {xs : List Bs} (h : LineSt t k fr xs) (hk : k < t.length) (hb : t[k] = 10) : LineSt t (k + 1) (k + 1) (xs ++ [(t.drop fr).take (k - fr)]) ∧ fr ≤ k := by
  obtain ⟨h1, h2, h3, h4⟩ := h
  refine ⟨⟨by omega, Nat.le_refl _, ?_, ?_⟩, h2⟩
  · rw [take_next t k hk, runC_snoc, hb]
    rw [show (t.drop fr).take (k - fr) = (t.take k).drop fr from by rw [List.drop_take], h4, h3]
    simp [stepC]
  · rw [take_next t k hk, runC_snoc, hb]
    rw [List.drop_of_length_le (by simp; omega)]
    simp [stepC]
theorem LineSt.other {t : Bs} {k fr : Nat} {xs : List Bs} (h : LineSt t k fr xs) (hk : k < t.length) (hb : t[k] ≠ 10) : LineSt t (k + 1) fr xs ∧ fr ≤ k := by
  obtain ⟨h1, h2, h3, h4⟩ := h
  refine ⟨⟨by omega, by omega, ?_, ?_⟩, h2⟩
  · rw [take_next t k hk, runC_snoc]
    simp [stepC, hb, h3]
  · rw [take_next t k hk, runC_snoc, List.drop_append_of_le_length (by simp; omega), h4]
    simp [stepC, hb]
theorem LineSt.done {t : Bs} {fr : Nat} {xs : List Bs} (h : LineSt t t.length fr xs) : fr ≤ t.length ∧ linesL t = xs ++ (if fr < t.length then [t.drop fr] else []) := by
  obtain ⟨h1, h2, h3, h4⟩ := h
  rw [List.take_of_length_le (Nat.le_refl _)] at h3 h4
  refine ⟨h2, ?_⟩
  unfold linesL
  rw [h3, ← h4]
  congr 1
  by_cases q : fr < t.length
  · rw [if_pos q, if_neg]
    intro e
    have := congrArg List.length e
    simp at this; omega
  · rw [if_neg q, if_pos]
    exact List.drop_of_length_le (by omega)

set_option maxRecDepth 100000 in
set_option maxHeartbeats 3200000 in
theorem lsplit_any (t : Bs) (w : World) (ht : t.length ≤ 1100000) : Calls Tryz.prog 23 #[.string (bs t)] w (SliP (linesL t) w) := by
  obtain ⟨i0', hi', hz0, hz1, hz2⟩ := info_parts Tryz.infoStr
  go_enter Tryz.func23, Tryz.ntmps23
  go_wp2_with fail
  go_loopw [3, 4, 8] (fun v fv i wr => ∃ (k fr : Nat) (xs : List Bs), k ≤ t.length ∧ i = .int .i64 k ∧ fv = .int .i64 fr ∧ fr ≤ k ∧ xs.length ≤ k ∧ wr.ownsRow w.heap.size 9 1 v xs.length (strCells xs) ∧ Hid (LineSt t k fr xs) ∧ Kept w wr) (fun _ _ i _ => t.length - (intOf i).toNat)
  case atStart => exact ⟨0, 0, [], Nat.zero_le _, rfl, rfl, Nat.zero_le _, Nat.le_refl _, World.ownsRow_nil _ _ _ _, LineSt.start t, Kept.refl _⟩
  case round =>
    obtain ⟨k, fr, xs, hk, rfl, rfl, hfr, hxl, hown, HS, hkr⟩ := hrel
    have hsz : w.heap.size ≤ wr.heap.size := hkr.size
    have HKR := Lib.hid hkr
    have HOWN := Lib.hid hown
    clear hkr hown
    by_cases hlt : k < t.length
    · have i0 := run_ix (P := Tryz.prog) (t := 9) Tryz.underlying9 t k hlt k rfl
      have HC : Hid (at8 t k = 10 ↔ t[k] = 10) := by show _ ↔ _; rw [at8_get t k hlt]; exact u8_int _ 10 (by decide)
      by_cases hb : at8 t k = 10
      · obtain ⟨hst, hfk⟩ := HS.out.feed hlt (HC.out.1 hb)
        have sl := run_sub (P := Tryz.prog) (t := 9) Tryz.underlying9 t fr k hfk (by omega) fr k rfl rfl _ rfl
        have HST := Lib.hid hst
        have hown := HOWN.out
        have hb' : (at8 t k == 10) = true := by simpa using hb
        generalize (t.drop fr).take (k - fr) = y at *
        generalize at8 t k = b at *
        clear hst HC hb
        go_wp2_with (at_builtin; refine wpList_append_own _ rfl _ _ 33 rfl w.heap.size 9 i0' (.string ⟨#[]⟩) 1 16 Tryz.underlying33 hi' hz0 hz1 hz2 rfl (by decide) _ _ _ rfl (hown.alloc _) ⟨wr.heap.size, 0, none⟩ 1 1 [.string (bs y)] rfl rfl ?_ ?_ ?_ ?_ ?_ ?_)
        · exact new_cells _ #[.string (bs y)] _ _ (by simp)
        · intro u hu; simp at hu; subst hu; rfl
        · unfold maxLen; omega
        · omega
        · simp; omega
        intro v' w2 hown2 hgrow _
        have HB2 := Lib.hid ((HKR.out.trans (kept_alloc wr _)).trans' (grown_below (hown.alloc _) hgrow (by simp; omega)))
        rw [← strCells_snoc] at hown2
        have HO := Lib.hid hown2
        clear hown2 hgrow hown
        go_wp2_with fail
        go_roundw
        case rel => exact ⟨k + 1, k + 1, xs ++ [y], by omega, by go_num, by go_num, by omega, by simp; omega, by simpa using HO.out, HST.out, HB2.out⟩
        case measure => simp [intOf]; omega
      · obtain ⟨hst, hfk⟩ := HS.out.other hlt (fun q => hb (HC.out.2 q))
        have HST := Lib.hid hst
        have hb' : (at8 t k == 10) = false := by simpa using hb
        generalize at8 t k = b at *
        clear hst HC hb
        go_wp2_with fail
        go_roundw
        case rel => exact ⟨k + 1, fr, xs, by omega, by go_num, rfl, by omega, by omega, HOWN.out, HST.out, HKR.out⟩
        case measure => simp [intOf]; omega
    · obtain rfl : k = t.length := by omega
      obtain ⟨hfl, hfin⟩ := HS.out.done
      have HFIN := Lib.hid hfin
      clear hfin
      by_cases hq : fr < t.length
      · rw [if_pos hq] at HFIN
        have sl := run_from (P := Tryz.prog) (t := 9) Tryz.underlying9 t fr hfl fr rfl _ rfl
        have hown := HOWN.out
        generalize t.drop fr = y at *
        go_wp2_with (at_builtin; refine wpList_append_own _ rfl _ _ 33 rfl w.heap.size 9 i0' (.string ⟨#[]⟩) 1 16 Tryz.underlying33 hi' hz0 hz1 hz2 rfl (by decide) _ _ _ rfl (hown.alloc _) ⟨wr.heap.size, 0, none⟩ 1 1 [.string (bs y)] rfl rfl ?_ ?_ ?_ ?_ ?_ ?_)
        · exact new_cells _ #[.string (bs y)] _ _ (by simp)
        · intro u hu; simp at hu; subst hu; rfl
        · unfold maxLen; omega
        · omega
        · simp; omega
        intro v' w2 hown2 hgrow _
        have HB2 := Lib.hid ((HKR.out.trans (kept_alloc wr _)).trans' (grown_below (hown.alloc _) hgrow (by simp; omega)))
        rw [← strCells_snoc] at hown2
        have HO : Hid (Strs w2 v' (xs ++ [y])) := Strs.own (by simpa using hown2)
        clear hown2 hgrow hown
        go_wp2_with fail
        go_ret
        exact ⟨_, rfl, by rw [HFIN.out]; exact HO.out, HB2.out⟩
      · rw [if_neg hq, List.append_nil] at HFIN
        have HO := Lib.hid (Strs.own HOWN.out)
        go_wp2_with fail
        go_ret
        exact ⟨_, rfl, by rw [HFIN.out]; exact HO.out, HKR.out⟩

def indentL (l : Bs) : Nat := (l.takeWhile (· == 32)).length
def trimR (t : Bs) : Bs := (t.reverse.dropWhile (· == 32)).reverse
def trimL (l : Bs) : Bs := trimR (l.drop (indentL l))
theorem indent_le : ∀ l : Bs, indentL l ≤ l.length
  | [] => by simp [indentL]
  | b :: l => by
    have := indent_le l
    unfold indentL at this ⊢
    rw [List.takeWhile_cons]
    split <;> simp at this ⊢; omega
theorem indent_at (l : Bs) (k : Nat) (hk : k ≤ l.length) (h1 : ∀ j (hj : j < l.length), j < k → l[j] = 32) (h2 : ∀ h : k < l.length, l[k] ≠ 32) : indentL l = k := by
  induction l generalizing k with
  | nil => simp at hk; subst hk; rfl
  | cons b l ih =>
    unfold indentL
    cases k with
    | zero =>
      have := h2 (by simp)
      simp at this
      rw [List.takeWhile_cons, if_neg (by simpa using this)]; rfl
    | succ k =>
      have hb := h1 0 (by simp) (by omega)
      simp at hb
      rw [List.takeWhile_cons, if_pos (by simpa using hb), List.length_cons]
      congr 1
      exact ih k (by simpa using hk) (fun j hj hjk => by have := h1 (j + 1) (by simpa using hj) (by omega); simpa using this) (fun h => by have := h2 (by simpa using h); simpa using this)
theorem trimR_at (t : Bs) (n : Nat) (hn : n ≤ t.length) (h1 : ∀ b ∈ t.drop n, b = 32) (h2 : ∀ h : 0 < n, t[n - 1]'(by omega) ≠ 32) : trimR t = t.take n := by
  unfold trimR
  have e : t.reverse = (t.drop n).reverse ++ (t.take n).reverse := by rw [← List.reverse_append, List.take_append_drop]
  have e2 : ∀ (xs ys : Bs), (∀ b ∈ xs, b = 32) → (xs ++ ys).dropWhile (· == 32) = ys.dropWhile (· == 32) := by
    intro xs ys
    induction xs with
    | nil => intro _; rfl
    | cons b xs ih =>
      intro h
      have hb := h b (by simp)
      rw [List.cons_append, List.dropWhile_cons, if_pos (by simpa using hb)]
      exact ih (fun c hc => h c (by simp [hc]))
  rw [e, e2 _ _ (fun b hb => h1 b (by simpa using hb))]
  have e3 : (t.take n).reverse.dropWhile (· == 32) = (t.take n).reverse := by
    by_cases q : n = 0
    · subst q; simp
    · have hlast : t.take n = t.take (n - 1) ++ [t[n - 1]'(by omega)] := by
        have := List.take_succ_eq_append_getElem (l := t) (i := n - 1) (by omega)
        rw [show n - 1 + 1 = n from by omega] at this; exact this
      rw [hlast, List.reverse_append]
      simp only [List.reverse_cons, List.reverse_nil, List.nil_append, List.singleton_append]
      rw [List.dropWhile_cons, if_neg (by simpa using h2 (by omega))]
  rw [e3, List.reverse_reverse]

set_option maxRecDepth 100000 in
set_option maxHeartbeats 1600000 in
theorem indent_any (l : Bs) (w : World) (hs : l.length ≤ 1100000) : Calls Tryz.prog 46 #[.string (bs l)] w fun e w' => e = .returned (.int .i64 (indentL l)) ∧ w = w' := by
  go_enter Tryz.func46, Tryz.ntmps46
  go_wp2_with fail
  go_loop [3] (fun i => ∃ k : Nat, k ≤ l.length ∧ i = .int .i64 k ∧ Hid (∀ j (hj : j < l.length), j < k → l[j] = 32)) (fun i => l.length - (intOf i).toNat)
  case atStart => exact ⟨0, Nat.zero_le _, rfl, fun j hj h => by omega⟩
  case round =>
    obtain ⟨k, hk, rfl, HA⟩ := hrel
    by_cases hlt : k < l.length
    · have i0 := run_ix (P := Tryz.prog) (t := 9) Tryz.underlying9 l k hlt k rfl
      have HC : Hid (at8 l k = 32 ↔ l[k] = 32) := by show _ ↔ _; rw [at8_get l k hlt]; exact u8_int _ 32 (by decide)
      by_cases hb : at8 l k = 32
      · have HN : Hid (∀ j (hj : j < l.length), j < k + 1 → l[j] = 32) := by
          intro j hj hjk
          by_cases q : j < k
          · exact HA.out j hj q
          · obtain rfl : j = k := by omega
            exact HC.out.1 hb
        have hb' : (at8 l k == 32) = true := by simpa using hb
        generalize at8 l k = b at *
        clear hb HC HA
        go_wp2_with fail
        go_round
        case rel => exact ⟨k + 1, by omega, by go_num, HN.out⟩
        case measure => simp [intOf]; omega
      · have HF : Hid (indentL l = k) := indent_at l k hk HA.out (fun _ q => hb (HC.out.2 q))
        have hb' : (at8 l k == 32) = false := by simpa using hb
        generalize at8 l k = b at *
        clear hb HC HA
        go_wp2_with fail
        go_ret
        exact ⟨ret_int (by rw [HF.out]), rfl⟩
    · have HF : Hid (indentL l = k) := indent_at l k hk HA.out (fun h => absurd h hlt)
      clear HA
      go_wp2_with fail
      go_ret
      exact ⟨ret_int (by rw [HF.out]), rfl⟩

set_option maxRecDepth 100000 in
set_option maxHeartbeats 1600000 in
theorem trim_any (l : Bs) (w : World) (hs : l.length ≤ 1100000) : Calls Tryz.prog 24 #[.string (bs l)] w fun e w' => e = .returned (.string (bs (trimL l))) ∧ w = w' := by
  have hil := indent_le l
  have HI := Lib.hid (fun w => indent_any l w hs)
  have sl := run_from (P := Tryz.prog) (t := 9) Tryz.underlying9 l (indentL l) hil (indentL l) rfl _ rfl
  have HT : Hid (trimL l = trimR (l.drop (indentL l))) := rfl
  have htl : (l.drop (indentL l)).length ≤ 1100000 := by simp; omega
  generalize l.drop (indentL l) = t at *
  generalize indentL l = n0 at *
  go_enter Tryz.func24, Tryz.ntmps24
  go_wp2_with fail
  refine (HI.out _).mono ?_
  rintro e w' ⟨rfl, rfl⟩
  go_wp2_with fail
  clear sl
  go_loop [0] (fun s => ∃ n : Nat, n ≤ t.length ∧ s = .string (bs (t.take n)) ∧ Hid (∀ b ∈ t.drop n, b = 32)) (fun s => match s with | .string b => b.size | _ => 0)
  case atStart => exact ⟨t.length, Nat.le_refl _, by rw [List.take_of_length_le (Nat.le_refl _)], fun b hb => by rw [List.drop_of_length_le (Nat.le_refl _)] at hb; cases hb⟩
  case round =>
    obtain ⟨n, hn, rfl, HA⟩ := hrel
    have hlen : (t.take n).length = n := by simp; omega
    have HLEN := Lib.hid hlen
    by_cases h0 : n = 0
    · subst h0
      have HF : Hid (trimR t = t.take 0) := trimR_at t 0 (by omega) HA.out (fun h => by omega)
      clear HA hlen
      simp only [List.take_zero]
      go_wp2_with fail
      go_ret
      exact ⟨ret_bs (by rw [HT.out, HF.out]; rfl), rfl⟩
    · have hlt : n - 1 < (t.take n).length := by omega
      have i0 := run_ix (P := Tryz.prog) (t := 9) Tryz.underlying9 (t.take n) (n - 1) hlt ((t.take n).length - 1) (by omega)
      have su := run_upto (P := Tryz.prog) (t := 9) Tryz.underlying9 (t.take n) (n - 1) (by omega) ((t.take n).length - 1) (by omega) (t.take (n - 1)) (by rw [List.take_take]; congr 1; omega)
      have hn1 : n - 1 < t.length := by omega
      have HC : Hid (at8 (t.take n) (n - 1) = 32 ↔ t[n - 1]'hn1 = 32) := by
        show _ ↔ _
        rw [at8_get _ _ hlt, List.getElem_take]
        exact u8_int _ 32 (by decide)
      have hpos : 0 < (t.take n).length := by omega
      have hne : ¬ t.take n = [] := by intro q; rw [q] at hpos; simp at hpos
      have hle : (t.take n).length ≤ 1100000 := by omega
      generalize hx : at8 (t.take n) (n - 1) = b at *
      clear hx hlen
      by_cases hb : b = 32
      · have HN : Hid (∀ b ∈ t.drop (n - 1), b = 32) := by
          intro c hc
          have e : t.drop (n - 1) = t[n - 1]'(by omega) :: t.drop n := by
            rw [List.drop_eq_getElem_cons (by omega)]; congr 2; omega
          rw [e] at hc
          rcases List.mem_cons.1 hc with h | h
          · rw [h]; exact HC.out.1 hb
          · exact HA.out c h
        have HM : Hid ((t.take (n - 1)).length < (t.take n).length) := by show _ < _; simp; omega
        have hb' : (b == 32) = true := by simpa using hb
        clear hb HC HA
        generalize hx : t.take n = s at *
        clear hx
        go_wp2_with fail
        go_round
        case rel => exact ⟨n - 1, by omega, rfl, HN.out⟩
        case measure => simpa using HM.out
      · have HF : Hid (trimR t = t.take n) := trimR_at t n hn HA.out (fun _ q => hb (HC.out.2 q))
        have hb' : (b == 32) = false := by simpa using hb
        clear hb HC HA
        generalize hx : t.take n = s at *
        clear hx
        go_wp2_with fail
        go_ret
        exact ⟨ret_bs (by rw [HT.out, HF.out]), rfl⟩
end Go.Proofs.YtgkgcheegaegnaaGreatDoor
