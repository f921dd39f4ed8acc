/- The reference's bytes of a code point, Append and Next. Conditions: lengths. -/
import Derived.Test.YtofeonnmoakbaaaGreatDoorK06
import Derived.Test.YtofeonnmoakbaaaGreatDoorK05
import Derived.Test.YtofeonnmoakbaaaGreatDoorK20
import Derived.Test.YtofeonnmoakbaaaGreatDoorK11
import Derived.Laws.Cover4

set_option linter.all false
namespace Go.Proofs.YtofeonnmoakbaaaGreatDoor
open Go.RowKit

def byteC (l : Bs) : List Value := l.map fun b => .int .u8 (b.toNat : Int)
def BytesPost (l : Bs) (w : World) (e : Ending) (w' : World) : Prop := e = .returned (.slice (some ⟨w.heap.size, 0, none⟩) l.length l.length) ∧ w' = w.alloc (.cells (byteC l).toArray 5)
theorem wrap8 (n : Int) (h : 0 ≤ n ∧ n < 256) : IntKind.u8.wrap n = n := by
  have : IntKind.u8.bits = 8 := rfl
  unfold IntKind.wrap; simp [this, IntKind.signed]; omega
set_option maxRecDepth 100000 in
theorem encL_of (c : Nat) (h : c ≤ 1114111 ∧ ¬ (55296 ≤ c ∧ c ≤ 57343)) : encL c = if c < 128 then [UInt8.ofNat c] else if c < 2048 then [UInt8.ofNat (192 + c / 64), UInt8.ofNat (128 + c % 64)]
    else if c < 65536 then [UInt8.ofNat (224 + c / 4096), UInt8.ofNat (128 + c / 64 % 64), UInt8.ofNat (128 + c % 64)]
    else [UInt8.ofNat (240 + c / 262144), UInt8.ofNat (128 + c / 4096 % 64), UInt8.ofNat (128 + c / 64 % 64), UInt8.ofNat (128 + c % 64)] := by
  have hv : Utf8.valid (c : Int) = true := by
    unfold Utf8.valid
    simp only [Bool.or_eq_true, Bool.and_eq_true, decide_eq_true_eq]; omega
  unfold encL Utf8.encode
  simp only [hv, if_true, Int.toNat_natCast]
  by_cases h1 : c < 128
  · rw [if_pos h1, if_pos h1]
  rw [if_neg h1, if_neg h1]
  by_cases h2 : c < 2048
  · rw [if_pos h2, if_pos h2]
  rw [if_neg h2, if_neg h2]
  by_cases h3 : c < 65536
  · rw [if_pos h3, if_pos h3]
  rw [if_neg h3, if_neg h3]
theorem ofNat_toNat (n : Nat) (h : n < 256) : ((UInt8.ofNat n).toNat : Int) = (n : Int) := by rw [UInt8.toNat_ofNat', Nat.mod_eq_of_lt h]

theorem bytesPost_mk {l : Bs} {w w' : World} {e : Ending} {cs : Array Value} (n : Nat) (hl : l.length = n) (hc : (byteC l).toArray = cs) (he : e = .returned (.slice (some ⟨w.heap.size, 0, none⟩) n n)) (hw : w' = w.alloc (.cells cs 5)) : BytesPost l w e w' := by
  subst hl hc; exact ⟨he, hw⟩
theorem encB1 (c : Int) (h0 : 0 ≤ c) (g : c < 128) : encL c = [UInt8.ofNat c.toNat] := by
  obtain ⟨n, rfl⟩ : ∃ n : Nat, c = n := ⟨c.toNat, by omega⟩
  rw [encL_of n (by omega), if_pos (by omega), Int.toNat_natCast]
theorem encB2 (c : Int) (h0 : 128 ≤ c) (g : c < 2048) : encL c = [UInt8.ofNat (192 + c / 64).toNat, UInt8.ofNat (128 + c % 64).toNat] := by
  obtain ⟨n, rfl⟩ : ∃ n : Nat, c = n := ⟨c.toNat, by omega⟩
  rw [encL_of n (by omega), if_neg (by omega), if_pos (by omega)]
  have e1 : (192 + (n : Int) / 64).toNat = 192 + n / 64 := by omega
  have e2 : (128 + (n : Int) % 64).toNat = 128 + n % 64 := by omega
  rw [e1, e2]
theorem encB3 (c : Int) (h0 : 2048 ≤ c) (g : c < 65536) (h2 : c < 55296 ∨ 57343 < c) : encL c = [UInt8.ofNat (224 + c / 4096).toNat, UInt8.ofNat (128 + c / 64 % 64).toNat, UInt8.ofNat (128 + c % 64).toNat] := by
  obtain ⟨n, rfl⟩ : ∃ n : Nat, c = n := ⟨c.toNat, by omega⟩
  rw [encL_of n (by omega), if_neg (by omega), if_neg (by omega), if_pos (by omega)]
  have e0 : (224 + (n : Int) / 4096).toNat = 224 + n / 4096 := by omega
  have e1 : (128 + (n : Int) / 64 % 64).toNat = 128 + n / 64 % 64 := by omega
  have e2 : (128 + (n : Int) % 64).toNat = 128 + n % 64 := by omega
  rw [e0, e1, e2]
theorem encB4 (c : Int) (h0 : 65536 ≤ c) (g : c ≤ 1114111) : encL c = [UInt8.ofNat (240 + c / 262144).toNat, UInt8.ofNat (128 + c / 4096 % 64).toNat, UInt8.ofNat (128 + c / 64 % 64).toNat, UInt8.ofNat (128 + c % 64).toNat] := by
  obtain ⟨n, rfl⟩ : ∃ n : Nat, c = n := ⟨c.toNat, by omega⟩
  rw [encL_of n (by omega), if_neg (by omega), if_neg (by omega), if_neg (by omega)]
  have e0 : (240 + (n : Int) / 262144).toNat = 240 + n / 262144 := by omega
  have e3 : (128 + (n : Int) / 4096 % 64).toNat = 128 + n / 4096 % 64 := by omega
  have e1 : (128 + (n : Int) / 64 % 64).toNat = 128 + n / 64 % 64 := by omega
  have e2 : (128 + (n : Int) % 64).toNat = 128 + n % 64 := by omega
  rw [e0, e1, e2, e3]
theorem byteN (c : Int) (h : 0 ≤ c ∧ c < 256) : ((UInt8.ofNat c.toNat).toNat : Int) = c := by
  rw [ofNat_toNat _ (by omega)]; omega

end Go.Proofs.YtofeonnmoakbaaaGreatDoor

/- The reference's Append. Conditions: lengths. -/
set_option linter.all false
namespace Go.Proofs.YtofeonnmoakbaaaGreatDoor
open Go.RowKit

theorem encL_len (c : Int) : (encL c).length ≤ 4 := by have := encode_size_le c; exact this
theorem dec_valid (s : ByteArray) (i : Nat) : 0 ≤ (dec s i).1 ∧ (dec s i).1 ≤ 1114111 ∧ ((dec s i).1 < 55296 ∨ 57343 < (dec s i).1) := by
  have h0 := byteAt_lo s i
  have m0 : ∀ k l h, ¬ moreOf s k l h < 0 → 128 ≤ l → l - 128 ≤ moreOf s k l h ∧ moreOf s k l h ≤ h - 128 := by
    intro k l h q hl
    obtain ⟨_, h1, h2, h3⟩ := more_yes (s := s) (i := k) (l := l) (h := h) (by omega)
    omega
  unfold dec
  split
  · simp only; omega
  split
  · split
    · rename_i q
      have := m0 (i + 1) 128 191 (by omega) (by omega)
      simp only; omega
    · simp only; omega
  split
  · rename_i hb
    unfold three
    split
    · simp only; omega
    · rename_i q
      simp only [not_or] at q
      have a := m0 (i + 1) (low3 (byteAt s i)) (high3 (byteAt s i)) q.1 (by unfold low3; split <;> omega)
      have b := m0 (i + 2) 128 191 q.2 (by omega)
      have c : high3 (byteAt s i) ≤ 191 ∧ (byteAt s i = 237 → high3 (byteAt s i) = 159) := by unfold high3; split <;> omega
      have d : 128 ≤ low3 (byteAt s i) := by unfold low3; split <;> omega
      simp only; omega
  split
  · rename_i hb
    unfold four
    split
    · simp only; omega
    · rename_i q
      simp only [not_or] at q
      have a := m0 (i + 1) (low4 (byteAt s i)) (high4 (byteAt s i)) q.1 (by unfold low4; split <;> omega)
      have b := m0 (i + 2) 128 191 q.2.1 (by omega)
      have b2 := m0 (i + 3) 128 191 q.2.2 (by omega)
      have c : high4 (byteAt s i) ≤ 191 ∧ (byteAt s i = 244 → high4 (byteAt s i) = 143) := by unfold high4; split <;> omega
      have d : 128 ≤ low4 (byteAt s i) ∧ (byteAt s i = 240 → low4 (byteAt s i) = 144) := by unfold low4; split <;> omega
      simp only; omega
  · simp only; omega

theorem conv_bytes (w : World) (l : Bs) (n : Nat) (hn : n = l.length) : (convert 80 9 (.slice (some ⟨w.heap.size, 0, none⟩) n n)).run Tryz.prog (w.alloc (.cells (byteC l).toArray 5)) = .ok (.string (bs l)) (w.alloc (.cells (byteC l).toArray 5)) := by
  subst hn
  refine run_convert_bytes_back (P := Tryz.prog) (w.alloc (.cells (byteC l).toArray 5)) 80 9 5 ⟨w.heap.size, 0, none⟩ l.length l Tryz.underlying80 Tryz.underlying5 Tryz.underlying9 ?_
  intro j hj
  exact new_cells w (byteC l).toArray 5 w.heap.size rfl j _ (by simp [byteC, List.getElem?_eq_getElem hj])

end Go.Proofs.YtofeonnmoakbaaaGreatDoor

/- Plain law of initials: what a walk over code points gathers is what the pieces' first code points make. No condition. -/
set_option linter.all false
namespace Go.Proofs.YtofeonnmoakbaaaGreatDoor
open Go.RowKit

/-- The sign of a piece: its first code point and a period. -/
def pieceI (x : Bs) : Bs := encL (dec (bs x) 0).1 ++ [46]
/-- What is still to be written for the rest of a given name: begins: the next character begins a piece; inWord: the word has a piece already; some: something is written. -/
def ini : Bs → Bool → Bool → Bool → Bs
  | [], _, _, _ => []
  | b :: r, bg, iw, sm =>
    if b = 32 then ini r true false sm
    else if b = 45 then ini r true iw sm
    else if bg then (if iw then [45] else if sm then [32] else []) ++ pieceI (b :: r) ++ ini r false true true
    else ini r false iw sm
theorem ini_cons (b : UInt8) (r : Bs) (bg iw sm : Bool) : ini (b :: r) bg iw sm = if b = 32 then ini r true false sm else if b = 45 then ini r true iw sm
    else if bg then (if iw then [45] else if sm then [32] else []) ++ pieceI (b :: r) ++ ini r false true true else ini r false iw sm := rfl
/-- The pieces of a word, the initials of a word, of a given name. -/
def piecesOf (c : UInt8) (l : Bs) : List Bs := (splitC c l).filter nonE
def iniW (w : Bs) : Bs := Lib.join ((piecesOf 45 w).map pieceI) [45]
def initialsL (g : Bs) : Bs := joinedL ((piecesOf 32 g).map iniW)

theorem ini_skip (x t : Bs) (iw sm : Bool) (h1 : (32 : UInt8) ∉ x) (h2 : (45 : UInt8) ∉ x) : ini (x ++ t) false iw sm = ini t false iw sm := by
  induction x with
  | nil => rfl
  | cons b x ih =>
    rw [List.cons_append, ini_cons, if_neg (fun q => h1 (by rw [q]; simp)), if_neg (fun q => h2 (by rw [q]; simp))]
    rw [if_neg (by simp)]
    exact ih (fun q => h1 (by simp [q])) (fun q => h2 (by simp [q]))
def lead (iw sm : Bool) : Bs := if iw then [45] else if sm then [32] else []
theorem ini_piece (x t : Bs) (iw sm : Bool) (hx : x ≠ []) (h1 : (32 : UInt8) ∉ x) (h2 : (45 : UInt8) ∉ x) (ht : t = [] ∨ at8 t 0 < 128) :
    ini (x ++ t) true iw sm = lead iw sm ++ pieceI x ++ ini t false true true := by
  cases x with
  | nil => exact absurd rfl hx
  | cons b x =>
    have hd : pieceI ((b :: x) ++ t) = pieceI (b :: x) := by unfold pieceI; rw [dec_cut (b :: x) t (by simp) ht]
    rw [List.cons_append] at hd ⊢
    rw [ini_cons, if_neg (fun q => h1 (by rw [q]; simp)), if_neg (fun q => h2 (by rw [q]; simp)), if_pos rfl, hd,
      ini_skip x t true true (fun q => h1 (by simp [q])) (fun q => h2 (by simp [q]))]
    rfl

def TailOK (t : Bs) : Prop := t = [] ∨ ∃ r, t = 32 :: r
theorem TailOK.low {t : Bs} (h : TailOK t) : t = [] ∨ at8 t 0 < 128 := by
  rcases h with rfl | ⟨r, rfl⟩
  · exact .inl rfl
  · exact .inr (by show ((32 : UInt8).toNat : Int) < 128; decide)
theorem TailOK.same {t : Bs} (h : TailOK t) (bg iw sm : Bool) : ini t bg iw sm = ini t true false sm := by
  rcases h with rfl | ⟨r, rfl⟩
  · rfl
  · rw [ini_cons, ini_cons]; simp
theorem first_split (c : UInt8) (l : Bs) : c ∉ l ∨ ∃ a r, l = a ++ c :: r ∧ c ∉ a ∧ r.length < l.length := by
  rcases index_one l c with ⟨_, h⟩ | ⟨i, _, h2, h3, h4⟩
  · exact .inl h
  · exact .inr ⟨l.take i, l.drop (i + 1), h4, h3, by simp; omega⟩
def wordOut (iw sm : Bool) (ps : List Bs) : Bs := if ps = [] then [] else lead iw sm ++ Lib.join (ps.map pieceI) [45]
theorem join_two (sep x : Bs) (r : List Bs) : Lib.join (x :: r) sep = x ++ (if r = [] then [] else sep ++ Lib.join r sep) := by
  cases r with
  | nil => simp [Lib.join_one]
  | cons y r =>
    rw [Lib.join_cons, Lib.join_cons]
    simp [Lib.joinTail]
theorem pieces_none (c : UInt8) (l : Bs) (h : c ∉ l) : piecesOf c l = if l = [] then [] else [l] := by
  unfold piecesOf; rw [splitC_none c l h]
  by_cases q : l = []
  · subst q; rfl
  · rw [if_neg q]; simp [nonE, q]
theorem pieces_at (c : UInt8) (a r : Bs) (h : c ∉ a) : piecesOf c (a ++ c :: r) = (if a = [] then [] else [a]) ++ piecesOf c r := by
  unfold piecesOf; rw [splitC_at c a r h, List.filter_cons]
  by_cases q : a = []
  · subst q; rfl
  · rw [if_neg q, if_pos (by simp [nonE, q])]; rfl
theorem ini_word : ∀ (n : Nat) (w t : Bs) (iw sm : Bool), w.length ≤ n → (32 : UInt8) ∉ w → TailOK t →
    ini (w ++ t) true iw sm = wordOut iw sm (piecesOf 45 w) ++ ini t true false (sm || !(piecesOf 45 w).isEmpty)
  | n, w, t, iw, sm, hn, h32, ht => by
    rcases first_split 45 w with h | ⟨a, r, rfl, ha, hr⟩
    · rw [pieces_none 45 w h]
      by_cases q : w = []
      · subst q
        rw [if_pos rfl, List.nil_append, ht.same]
        simp [wordOut]
      · rw [if_neg q, ini_piece w t iw sm q h32 h ht.low, ht.same]
        simp [wordOut, Lib.join_one]
    · cases n with
      | zero => simp at hn
      | succ n =>
        have h32a : (32 : UInt8) ∉ a := fun q => h32 (by simp [q])
        have h32r : (32 : UInt8) ∉ r := fun q => h32 (by simp [q])
        rw [pieces_at 45 a r ha]
        by_cases q : a = []
        · subst q
          rw [if_pos rfl, List.nil_append, List.nil_append, List.cons_append, ini_cons, if_neg (by decide), if_pos rfl]
          exact ini_word n r t iw sm (by simp at hr hn; omega) h32r ht
        · rw [if_neg q, List.append_assoc, List.cons_append, ini_piece a (45 :: (r ++ t)) iw sm q h32a ha (.inr (by show ((45 : UInt8).toNat : Int) < 128; decide)),
            ini_cons, if_neg (by decide), if_pos rfl, ini_word n r t true true (by simp at hr hn; omega) h32r ht]
          by_cases z : piecesOf 45 r = []
          · rw [z]; simp [wordOut, Lib.join_one]
          · have e1 : wordOut true true (piecesOf 45 r) = [45] ++ Lib.join ((piecesOf 45 r).map pieceI) [45] := by unfold wordOut; rw [if_neg z]; rfl
            have e2 : wordOut iw sm ([a] ++ piecesOf 45 r) = lead iw sm ++ (pieceI a ++ ([45] ++ Lib.join ((piecesOf 45 r).map pieceI) [45])) := by
              unfold wordOut; rw [if_neg (by simp), List.singleton_append, List.map_cons, join_two, if_neg (by simpa using z)]
            rw [e1, e2]; simp
theorem pieceI_ne (x : Bs) : pieceI x ≠ [] := by unfold pieceI; simp
theorem iniW_nil (w : Bs) : iniW w = [] ↔ piecesOf 45 w = [] := by
  unfold iniW
  constructor
  · intro h
    cases hp : piecesOf 45 w with
    | nil => rfl
    | cons a r =>
      rw [hp, List.map_cons, join_two] at h
      simp [pieceI_ne] at h
  · intro h; rw [h]; rfl
def wsOf (g : Bs) : List Bs := ((splitC 32 g).map iniW).filter nonE
def seqOut (sm : Bool) (ws : List Bs) : Bs := if ws = [] then [] else lead false sm ++ Lib.join ws [32]
theorem wordOut_iniW (sm : Bool) (w : Bs) : wordOut false sm (piecesOf 45 w) = seqOut sm ([iniW w].filter nonE) := by
  unfold wordOut seqOut
  by_cases h : piecesOf 45 w = []
  · rw [if_pos h, (iniW_nil w).2 h]; rfl
  · have hn : iniW w ≠ [] := fun q => h ((iniW_nil w).1 q)
    have e : [iniW w].filter nonE = [iniW w] := by simp [nonE, hn]
    rw [if_neg h, e, if_neg (by simp), Lib.join_one]; rfl
theorem ini_all : ∀ (n : Nat) (g : Bs) (sm : Bool), g.length ≤ n → ini g true false sm = seqOut sm (wsOf g)
  | n, g, sm, hn => by
    rcases first_split 32 g with h | ⟨a, r, rfl, ha, hr⟩
    · have := ini_word g.length g [] false sm (Nat.le_refl _) h (.inl rfl)
      rw [List.append_nil] at this
      rw [this, wordOut_iniW]
      unfold wsOf; rw [splitC_none 32 g h]
      simp [ini]
    · cases n with
      | zero => simp at hn
      | succ n =>
        rw [ini_word a.length a (32 :: r) false sm (Nat.le_refl _) ha (.inr ⟨r, rfl⟩), ini_cons, if_pos rfl, ini_all n r _ (by simp at hr hn; omega), wordOut_iniW]
        unfold wsOf
        rw [splitC_at 32 a r ha, List.map_cons, List.filter_cons (x := iniW a) (xs := (splitC 32 r).map iniW)]
        by_cases h : piecesOf 45 a = []
        · have e : iniW a = [] := (iniW_nil a).2 h
          have e2 : (piecesOf 45 a).isEmpty = true := by simp [h]
          rw [e, e2, if_neg (by simp [nonE])]
          simp [seqOut, nonE]
        · have hn : iniW a ≠ [] := fun q => h ((iniW_nil a).1 q)
          have e2 : (piecesOf 45 a).isEmpty = false := by simpa using h
          have e : [iniW a].filter nonE = [iniW a] := by simp [nonE, hn]
          rw [e, e2, if_pos (by simp [nonE, hn])]
          generalize ((splitC 32 r).map iniW).filter nonE = ws
          have e3 : seqOut sm [iniW a] = lead false sm ++ iniW a := by unfold seqOut; rw [if_neg (by simp), Lib.join_one]
          have e4 : seqOut sm (iniW a :: ws) = lead false sm ++ (iniW a ++ (if ws = [] then [] else [32] ++ Lib.join ws [32])) := by unfold seqOut; rw [if_neg (by simp), join_two]
          rw [e3, e4]
          unfold seqOut
          by_cases z : ws = []
          · rw [if_pos z, if_pos z]; simp
          · rw [if_neg z, if_neg z]; simp [lead]
theorem initials_ini (g : Bs) : initialsL g = ini g true false false := by
  rw [ini_all g.length g false (Nat.le_refl _)]
  unfold initialsL joinedL seqOut piecesOf
  have e : ∀ xs : List Bs, ((xs.filter nonE).map iniW).filter nonE = (xs.map iniW).filter nonE := by
    intro xs
    induction xs with
    | nil => rfl
    | cons a r ih =>
      rw [List.filter_cons, List.map_cons, List.filter_cons (x := iniW a)]
      by_cases q : a = []
      · subst q
        have : iniW [] = [] := rfl
        rw [this, if_neg (by simp [nonE]), if_neg (by simp [nonE]), ih]
      · rw [if_pos (by simp [nonE, q]), List.map_cons, List.filter_cons (x := iniW a), ih]
  rw [e]
  by_cases z : wsOf g = []
  · rw [if_pos z]; unfold wsOf at z; rw [z]; rfl
  · rw [if_neg z]; rfl
end Go.Proofs.YtofeonnmoakbaaaGreatDoor
