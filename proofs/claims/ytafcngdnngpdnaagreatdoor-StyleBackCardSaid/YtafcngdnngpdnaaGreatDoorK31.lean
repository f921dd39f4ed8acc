/- Plain law of initials: what a walk over code points gathers is what the pieces' first code points make. No condition. -/
import Derived.Test.YtafcngdnngpdnaaGreatDoorK21
import Derived.Test.YtafcngdnngpdnaaGreatDoorK11
import Derived.Test.YtafcngdnngpdnaaGreatDoorK30
import Derived.Laws.Cover4

set_option linter.all false
namespace Go.Proofs.YtafcngdnngpdnaaGreatDoor
open Go.RowKit

/-- The sign of a piece: its first code point and a period. -/
def pieceI (x : Bs) : Bs := encL (dec (bs x) 0).1 ++ [46]
/-- What is still to be written for the rest of a given name: begins: the next character begins a piece; inWord: the word has a piece already; some: something is written. -/
def ini : Bs → Bool → Bool → Bool → Bs
  | [], _, _, _ => []
  | b :: r, bg, iw, sm =>
    if b = 32 then ini r true false sm
    else if b = 45 then ini r true iw sm
    else if bg then (if iw then [45] else if sm then [32] else []) ++ pieceI (b :: r) ++ ini r false true true
    else ini r false iw sm
theorem ini_cons (b : UInt8) (r : Bs) (bg iw sm : Bool) : ini (b :: r) bg iw sm = if b = 32 then ini r true false sm else if b = 45 then ini r true iw sm
    else if bg then (if iw then [45] else if sm then [32] else []) ++ pieceI (b :: r) ++ ini r false true true else ini r false iw sm := rfl
/-- The pieces of a word, the initials of a word, of a given name. -/
def piecesOf (c : UInt8) (l : Bs) : List Bs := (splitC c l).filter nonE
def iniW (w : Bs) : Bs := Lib.join ((piecesOf 45 w).map pieceI) [45]
def initialsL (g : Bs) : Bs := joinedL ((piecesOf 32 g).map iniW)

theorem ini_skip (x t : Bs) (iw sm : Bool) (h1 : (32 : UInt8) ∉ x) (h2 : (45 : UInt8) ∉ x) : ini (x ++ t) false iw sm = ini t false iw sm := by
  induction x with
  | nil => rfl
  | cons b x ih =>
    rw [List.cons_append, ini_cons, if_neg (fun q => h1 (by rw [q]; simp)), if_neg (fun q => h2 (by rw [q]; simp))]
    rw [if_neg (by simp)]
    exact ih (fun q => h1 (by simp [q])) (fun q => h2 (by simp [q]))
def lead (iw sm : Bool) : Bs := if iw then [45] else if sm then [32] else []
theorem ini_piece (x t : Bs) (iw sm : Bool) (hx : x ≠ []) (h1 : (32 : UInt8) ∉ x) (h2 : (45 : UInt8) ∉ x) (ht : t = [] ∨ at8 t 0 < 128) :
    ini (x ++ t) true iw sm = lead iw sm ++ pieceI x ++ ini t false true true := by
  cases x with
  | nil => exact absurd rfl hx
  | cons b x =>
    have hd : pieceI ((b :: x) ++ t) = pieceI (b :: x) := by unfold pieceI; rw [dec_cut (b :: x) t (by simp) ht]
    rw [List.cons_append] at hd ⊢
    rw [ini_cons, if_neg (fun q => h1 (by rw [q]; simp)), if_neg (fun q => h2 (by rw [q]; simp)), if_pos rfl, hd,
      ini_skip x t true true (fun q => h1 (by simp [q])) (fun q => h2 (by simp [q]))]
    rfl

def TailOK (t : Bs) : Prop := t = [] ∨ ∃ r, t = 32 :: r
theorem TailOK.low {t : Bs} (h : TailOK t) : t = [] ∨ at8 t 0 < 128 := by
  rcases h with rfl | ⟨r, rfl⟩
  · exact .inl rfl
  · exact .inr (by show ((32 : UInt8).toNat : Int) < 128; decide)
theorem TailOK.same {t : Bs} (h : TailOK t) (bg iw sm : Bool) : ini t bg iw sm = ini t true false sm := by
  rcases h with rfl | ⟨r, rfl⟩
  · rfl
  · rw [ini_cons, ini_cons]; simp
theorem first_split (c : UInt8) (l : Bs) : c ∉ l ∨ ∃ a r, l = a ++ c :: r ∧ c ∉ a ∧ r.length < l.length := by
  rcases index_one l c with ⟨_, h⟩ | ⟨i, _, h2, h3, h4⟩
  · exact .inl h
  · exact .inr ⟨l.take i, l.drop (i + 1), h4, h3, by simp; omega⟩
def wordOut (iw sm : Bool) (ps : List Bs) : Bs := if ps = [] then [] else lead iw sm ++ Lib.join (ps.map pieceI) [45]
theorem join_two (sep x : Bs) (r : List Bs) : Lib.join (x :: r) sep = x ++ (if r = [] then [] else sep ++ Lib.join r sep) := by
  cases r with
  | nil => simp [Lib.join_one]
  | cons y r =>
    rw [Lib.join_cons, Lib.join_cons]
    simp [Lib.joinTail]
theorem pieces_none (c : UInt8) (l : Bs) (h : c ∉ l) : piecesOf c l = if l = [] then [] else [l] := by
  unfold piecesOf; rw [splitC_none c l h]
  by_cases q : l = []
  · subst q; rfl
  · rw [if_neg q]; simp [nonE, q]
theorem pieces_at (c : UInt8) (a r : Bs) (h : c ∉ a) : piecesOf c (a ++ c :: r) = (if a = [] then [] else [a]) ++ piecesOf c r := by
  unfold piecesOf; rw [splitC_at c a r h, List.filter_cons]
  by_cases q : a = []
  · subst q; rfl
  · rw [if_neg q, if_pos (by simp [nonE, q])]; rfl
theorem ini_word : ∀ (n : Nat) (w t : Bs) (iw sm : Bool), w.length ≤ n → (32 : UInt8) ∉ w → TailOK t →
    ini (w ++ t) true iw sm = wordOut iw sm (piecesOf 45 w) ++ ini t true false (sm || !(piecesOf 45 w).isEmpty)
  | n, w, t, iw, sm, hn, h32, ht => by
    rcases first_split 45 w with h | ⟨a, r, rfl, ha, hr⟩
    · rw [pieces_none 45 w h]
      by_cases q : w = []
      · subst q
        rw [if_pos rfl, List.nil_append, ht.same]
        simp [wordOut]
      · rw [if_neg q, ini_piece w t iw sm q h32 h ht.low, ht.same]
        simp [wordOut, Lib.join_one]
    · cases n with
      | zero => simp at hn
      | succ n =>
        have h32a : (32 : UInt8) ∉ a := fun q => h32 (by simp [q])
        have h32r : (32 : UInt8) ∉ r := fun q => h32 (by simp [q])
        rw [pieces_at 45 a r ha]
        by_cases q : a = []
        · subst q
          rw [if_pos rfl, List.nil_append, List.nil_append, List.cons_append, ini_cons, if_neg (by decide), if_pos rfl]
          exact ini_word n r t iw sm (by simp at hr hn; omega) h32r ht
        · rw [if_neg q, List.append_assoc, List.cons_append, ini_piece a (45 :: (r ++ t)) iw sm q h32a ha (.inr (by show ((45 : UInt8).toNat : Int) < 128; decide)),
            ini_cons, if_neg (by decide), if_pos rfl, ini_word n r t true true (by simp at hr hn; omega) h32r ht]
          by_cases z : piecesOf 45 r = []
          · rw [z]; simp [wordOut, Lib.join_one]
          · have e1 : wordOut true true (piecesOf 45 r) = [45] ++ Lib.join ((piecesOf 45 r).map pieceI) [45] := by unfold wordOut; rw [if_neg z]; rfl
            have e2 : wordOut iw sm ([a] ++ piecesOf 45 r) = lead iw sm ++ (pieceI a ++ ([45] ++ Lib.join ((piecesOf 45 r).map pieceI) [45])) := by
              unfold wordOut; rw [if_neg (by simp), List.singleton_append, List.map_cons, join_two, if_neg (by simpa using z)]
            rw [e1, e2]; simp
theorem pieceI_ne (x : Bs) : pieceI x ≠ [] := by unfold pieceI; simp
theorem iniW_nil (w : Bs) : iniW w = [] ↔ piecesOf 45 w = [] := by
  unfold iniW
  constructor
  · intro h
    cases hp : piecesOf 45 w with
    | nil => rfl
    | cons a r =>
      rw [hp, List.map_cons, join_two] at h
      simp [pieceI_ne] at h
  · intro h; rw [h]; rfl
def wsOf (g : Bs) : List Bs := ((splitC 32 g).map iniW).filter nonE
def seqOut (sm : Bool) (ws : List Bs) : Bs := if ws = [] then [] else lead false sm ++ Lib.join ws [32]
theorem wordOut_iniW (sm : Bool) (w : Bs) : wordOut false sm (piecesOf 45 w) = seqOut sm ([iniW w].filter nonE) := by
  unfold wordOut seqOut
  by_cases h : piecesOf 45 w = []
  · rw [if_pos h, (iniW_nil w).2 h]; rfl
  · have hn : iniW w ≠ [] := fun q => h ((iniW_nil w).1 q)
    have e : [iniW w].filter nonE = [iniW w] := by simp [nonE, hn]
    rw [if_neg h, e, if_neg (by simp), Lib.join_one]; rfl
theorem ini_all : ∀ (n : Nat) (g : Bs) (sm : Bool), g.length ≤ n → ini g true false sm = seqOut sm (wsOf g)
  | n, g, sm, hn => by
    rcases first_split 32 g with h | ⟨a, r, rfl, ha, hr⟩
    · have := ini_word g.length g [] false sm (Nat.le_refl _) h (.inl rfl)
      rw [List.append_nil] at this
      rw [this, wordOut_iniW]
      unfold wsOf; rw [splitC_none 32 g h]
      simp [ini]
    · cases n with
      | zero => simp at hn
      | succ n =>
        rw [ini_word a.length a (32 :: r) false sm (Nat.le_refl _) ha (.inr ⟨r, rfl⟩), ini_cons, if_pos rfl, ini_all n r _ (by simp at hr hn; omega), wordOut_iniW]
        unfold wsOf
        rw [splitC_at 32 a r ha, List.map_cons, List.filter_cons (x := iniW a) (xs := (splitC 32 r).map iniW)]
        by_cases h : piecesOf 45 a = []
        · have e : iniW a = [] := (iniW_nil a).2 h
          have e2 : (piecesOf 45 a).isEmpty = true := by simp [h]
          rw [e, e2, if_neg (by simp [nonE])]
          simp [seqOut, nonE]
        · have hn : iniW a ≠ [] := fun q => h ((iniW_nil a).1 q)
          have e2 : (piecesOf 45 a).isEmpty = false := by simpa using h
          have e : [iniW a].filter nonE = [iniW a] := by simp [nonE, hn]
          rw [e, e2, if_pos (by simp [nonE, hn])]
          generalize ((splitC 32 r).map iniW).filter nonE = ws
          have e3 : seqOut sm [iniW a] = lead false sm ++ iniW a := by unfold seqOut; rw [if_neg (by simp), Lib.join_one]
          have e4 : seqOut sm (iniW a :: ws) = lead false sm ++ (iniW a ++ (if ws = [] then [] else [32] ++ Lib.join ws [32])) := by unfold seqOut; rw [if_neg (by simp), join_two]
          rw [e3, e4]
          unfold seqOut
          by_cases z : ws = []
          · rw [if_pos z, if_pos z]; simp
          · rw [if_neg z, if_neg z]; simp [lead]
theorem initials_ini (g : Bs) : initialsL g = ini g true false false := by
  rw [ini_all g.length g false (Nat.le_refl _)]
  unfold initialsL joinedL seqOut piecesOf
  have e : ∀ xs : List Bs, ((xs.filter nonE).map iniW).filter nonE = (xs.map iniW).filter nonE := by
    intro xs
    induction xs with
    | nil => rfl
    | cons a r ih =>
      rw [List.filter_cons, List.map_cons, List.filter_cons (x := iniW a)]
      by_cases q : a = []
      · subst q
        have : iniW [] = [] := rfl
        rw [this, if_neg (by simp [nonE]), if_neg (by simp [nonE]), ih]
      · rw [if_pos (by simp [nonE, q]), List.map_cons, List.filter_cons (x := iniW a), ih]
  rw [e]
  by_cases z : wsOf g = []
  · rw [if_pos z]; unfold wsOf at z; rw [z]; rfl
  · rw [if_neg z]; rfl
end Go.Proofs.YtafcngdnngpdnaaGreatDoor

/- person.Initials. Conditions: the length of the given name. -/
set_option linter.all false
namespace Go.Proofs.YtafcngdnngpdnaaGreatDoor
open Go.RowKit

def runesL (ns : List Int) : Bs := ns.flatMap encL
theorem runesL_snoc (ns : List Int) (c : Int) : runesL (ns ++ [c]) = runesL ns ++ encL c := by simp [runesL]
theorem runesL_two (ns : List Int) (c d : Int) : runesL (ns ++ [c, d]) = runesL ns ++ encL c ++ encL d := by simp [runesL]
theorem foldl_runes : ∀ (ns : List Int) (x : Bs), ns.foldl (fun r n => r ++ Utf8.encode n) (bs x) = bs (x ++ runesL ns)
  | [], x => by simp [runesL]
  | n :: ns, x => by
    rw [List.foldl_cons, encode_bs, bs_append, foldl_runes ns]
    simp [runesL]
theorem runesBytes_bs (ns : List Int) : runesBytes ns = bs (runesL ns) := by
  unfold runesBytes; rw [empty_bs, foldl_runes]; simp
def runeCells (ns : List Int) : List Value := ns.map (Value.int .i32)
theorem ini_step (g : Bs) (pos : Nat) (h : pos < g.length) (c n : Int) (hd : dec (bs g) pos = (c, n)) (bg iw sm : Bool) :
    (c = 32 ∧ n = 1 ∧ ini (g.drop pos) bg iw sm = ini (g.drop (pos + 1)) true false sm) ∨
    (c = 45 ∧ n = 1 ∧ ini (g.drop pos) bg iw sm = ini (g.drop (pos + 1)) true iw sm) ∨
    (c ≠ 32 ∧ c ≠ 45 ∧ ini (g.drop pos) bg iw sm = if bg then lead iw sm ++ (encL c ++ [46]) ++ ini (g.drop (pos + n.toNat)) false true true else ini (g.drop (pos + n.toNat)) false iw sm) := by
  have hp : pieceI (g.drop pos) = encL c ++ [46] := by unfold pieceI; rw [dec_shift, hd]
  have hcons : g.drop pos = g[pos] :: g.drop (pos + 1) := List.drop_eq_getElem_cons h
  have ha := at8_get g pos h
  by_cases hlo : at8 g pos < 128
  · have hdd := dec_ascii g pos hlo
    rw [hd] at hdd
    obtain ⟨rfl, rfl⟩ := Prod.mk.injEq _ _ _ _ ▸ hdd
    rw [hcons] at hp ⊢
    rw [ini_cons]
    have k32 := u8_int g[pos] 32 (by decide)
    have k45 := u8_int g[pos] 45 (by decide)
    rw [← ha] at k32 k45
    by_cases q : g[pos] = 32
    · left; exact ⟨k32.2 q, rfl, by rw [if_pos q]⟩
    by_cases q2 : g[pos] = 45
    · right; left; exact ⟨k45.2 q2, rfl, by rw [if_neg q, if_pos q2]⟩
    · right; right
      refine ⟨fun e => q (k32.1 e), fun e => q2 (k45.1 e), ?_⟩
      rw [if_neg q, if_neg q2, hp]; rfl
  · right; right
    obtain ⟨hc, hbytes⟩ := dec_high (bs g) pos (by rw [byteAt_bs]; omega)
    rw [hd] at hc hbytes
    simp only at hc hbytes
    have hb := dec_bounds (bs g) pos h
    rw [hd] at hb
    simp only [bs_size] at hb
    refine ⟨by omega, by omega, ?_⟩
    have hq : g[pos] ≠ 32 := fun e => by rw [e] at ha; have : ((32 : UInt8).toNat : Int) = 32 := by decide
                                         omega
    have hq2 : g[pos] ≠ 45 := fun e => by rw [e] at ha; have : ((45 : UInt8).toNat : Int) = 45 := by decide
                                          omega
    have hsplit : g.drop (pos + 1) = (g.drop (pos + 1)).take (n.toNat - 1) ++ g.drop (pos + n.toNat) := by
      conv => lhs; rw [← List.take_append_drop (n.toNat - 1) (g.drop (pos + 1))]
      rw [List.drop_drop, show pos + 1 + (n.toNat - 1) = pos + n.toNat from by omega]
    have hnot : ∀ x ∈ (g.drop (pos + 1)).take (n.toNat - 1), 128 ≤ (x.toNat : Int) := by
      intro x hx
      obtain ⟨j, hj, rfl⟩ := List.getElem_of_mem hx
      simp only [List.length_take, List.length_drop] at hj
      have hbj := hbytes (1 + j) (by omega)
      rw [byteAt_bs, ← Nat.add_assoc, at8_get g (pos + 1 + j) (by omega)] at hbj
      simp only [List.getElem_take, List.getElem_drop]
      exact hbj
    have hsk : ∀ iw sm, ini (g.drop (pos + 1)) false iw sm = ini (g.drop (pos + n.toNat)) false iw sm := by
      intro iw sm
      rw [hsplit]
      exact ini_skip _ _ iw sm (fun q => by have := hnot _ q; revert this; decide) (fun q => by have := hnot _ q; revert this; decide)
    rw [hcons] at hp ⊢
    rw [ini_cons, if_neg hq, if_neg hq2, hp, hsk, hsk]; rfl

theorem Tryz.infoRune : (Tryz.prog.info? 21).map (fun i => (i.zero, i.size, i.bytes)) = some (some (.int .i32 0), 1, 4) := by kernel_rfl

/-- What an append on the call's own row leaves of the rest. -/
theorem grown_rest {w w' : World} {base k : Nat} {e : TypeId} {size : Nat} {v : Value} {n : Nat} {xs : List Value} {o : Obj} (h : w.ownsRow base e size v n xs) (hg : (w.alloc o).grownBy w' v.ownBlock) (hk : k < base) (hb : base ≤ w.heap.size) :
    w'.heap[k]? = w.heap[k]? ∧ base ≤ w'.heap.size ∧ Below base w w' := by
  have hB : Below base w w' := ((Below.refl base w).alloc hb o).trans (grown_below (h.alloc o) hg (by simp; omega))
  exact ⟨hB.block k hk, by have := hB.size; omega, hB⟩
theorem own_iterAt {w : World} {base : Nat} {e : TypeId} {size : Nat} {v : Value} {n : Nat} {xs : List Value} (h : w.ownsRow base e size v n xs) (k : Nat) (hk : k < base) (s : ByteArray) (pos : Nat) : (w.iterAt k s pos).ownsRow base e size v n xs := by
  obtain ⟨h1, h2⟩ := h
  refine ⟨h1, ?_⟩
  rcases h2 with h2 | ⟨g, cap, cur, hv, hg, hh, r⟩
  · exact Or.inl h2
  · exact Or.inr ⟨g, cap, cur, hv, hg, by rw [Lib.iterAt_other _ _ _ _ _ (by omega)]; exact hh, r⟩

end Go.Proofs.YtafcngdnngpdnaaGreatDoor

/- Inverted of package person. Conditions: lengths. -/
set_option linter.all false
namespace Go.Proofs.YtafcngdnngpdnaaGreatDoor
open Go.RowKit

theorem ini_len : ∀ (l : Bs) (bg iw sm : Bool), (ini l bg iw sm).length ≤ 6 * l.length
  | [], _, _, _ => by simp [ini]
  | b :: r, bg, iw, sm => by
    rw [ini_cons]
    have h1 := ini_len r true false sm
    have h2 := ini_len r true iw sm
    have h3 := ini_len r false true true
    have h4 := ini_len r false iw sm
    have hp : (pieceI (b :: r)).length ≤ 5 := by unfold pieceI; have := encL_len (dec (bs (b :: r)) 0).1; simp; omega
    have hl : (if iw then [45] else if sm then [32] else ([] : Bs)).length ≤ 1 := by cases iw <;> cases sm <;> simp
    simp only [List.length_cons]
    split
    · omega
    split
    · omega
    split
    · simp only [List.length_append]; omega
    · omega
theorem initialsL_len (g : Bs) : (initialsL g).length ≤ 6 * g.length := by rw [initials_ini]; exact ini_len g _ _ _
def givenI (g : Bs) (i : Bool) : Bs := if i then initialsL g else g
def invL (f g p s : Bs) (i : Bool) : Bs := joinedL [p, f] ++ (if givenI g i = [] then [] else [44, 32] ++ givenI g i) ++ (if s = [] then [] else [44, 32] ++ s)

end Go.Proofs.YtafcngdnngpdnaaGreatDoor
