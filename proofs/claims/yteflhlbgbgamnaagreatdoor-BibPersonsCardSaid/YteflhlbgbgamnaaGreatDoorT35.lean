/- Plain law of initials: what a walk over code points gathers is what the pieces' first code points make. No condition. -/
import Derived.Test.YteflhlbgbgamnaaGreatDoorT15
import Derived.Test.YteflhlbgbgamnaaGreatDoorT34
import Derived.Test.YteflhlbgbgamnaaGreatDoorT17

set_option linter.all false
namespace Go.Proofs.YteflhlbgbgamnaaGreatDoor
open Go.RowKit

/-- The sign of a piece: its first code point and a period. -/
def pieceI (x : Bs) : Bs := encL (dec (bs x) 0).1 ++ [46]
/-- What is still to be written for the rest of a given name: begins: the next character begins a piece; inWord: the word has a piece already; some: something is written. -/
def ini : Bs → Bool → Bool → Bool → Bs
  | [], _, _, _ => []
  | b :: r, bg, iw, sm =>
    if b = 32 then ini r true false sm
    else if b = 45 then ini r true iw sm
    else if bg then (if iw then [45] else if sm then [32] else []) ++ pieceI (b :: r) ++ ini r false true true
    else ini r false iw sm
theorem ini_cons (b : UInt8) (r : Bs) (bg iw sm : Bool) : ini (b :: r) bg iw sm = if b = 32 then ini r true false sm else if b = 45 then ini r true iw sm
    else if bg then (if iw then [45] else if sm then [32] else []) ++ pieceI (b :: r) ++ ini r false true true else ini r false iw sm := rfl
/-- The pieces of a word, the initials of a word, of a given name. -/
def piecesOf (c : UInt8) (l : Bs) : List Bs := (splitC c l).filter nonE
def iniW (w : Bs) : Bs := Lib.join ((piecesOf 45 w).map pieceI) [45]
def initialsL (g : Bs) : Bs := joinedL ((piecesOf 32 g).map iniW)

theorem ini_skip (x t : Bs) (iw sm : Bool) (h1 : (32 : UInt8) ∉ x) (h2 : (45 : UInt8) ∉ x) : ini (x ++ t) false iw sm = ini t false iw sm := by
  induction x with
  | nil => rfl
  | cons b x ih =>
    rw [List.cons_append, ini_cons, if_neg (fun q => h1 (by rw [q]; simp)), if_neg (fun q => h2 (by rw [q]; simp))]
    rw [if_neg (by simp)]
    exact ih (fun q => h1 (by simp [q])) (fun q => h2 (by simp [q]))
def lead (iw sm : Bool) : Bs := if iw then [45] else if sm then [32] else []
theorem ini_piece (x t : Bs) (iw sm : Bool) (hx : x ≠ []) (h1 : (32 : UInt8) ∉ x) (h2 : (45 : UInt8) ∉ x) (ht : t = [] ∨ at8 t 0 < 128) :
    ini (x ++ t) true iw sm = lead iw sm ++ pieceI x ++ ini t false true true := by
  cases x with
  | nil => exact absurd rfl hx
  | cons b x =>
    have hd : pieceI ((b :: x) ++ t) = pieceI (b :: x) := by unfold pieceI; rw [dec_cut (b :: x) t (by simp) ht]
    rw [List.cons_append] at hd ⊢
    rw [ini_cons, if_neg (fun q => h1 (by rw [q]; simp)), if_neg (fun q => h2 (by rw [q]; simp)), if_pos rfl, hd,
      ini_skip x t true true (fun q => h1 (by simp [q])) (fun q => h2 (by simp [q]))]
    rfl

def TailOK (t : Bs) : Prop := t = [] ∨ ∃ r, t = 32 :: r
theorem TailOK.low {t : Bs} (h : TailOK t) : t = [] ∨ at8 t 0 < 128 := by
  rcases h with rfl | ⟨r, rfl⟩
  · exact .inl rfl
  · exact .inr (by show ((32 : UInt8).toNat : Int) < 128; decide)
theorem TailOK.same {t : Bs} (h : TailOK t) (bg iw sm : Bool) : ini t bg iw sm = ini t true false sm := by
  rcases h with rfl | ⟨r, rfl⟩
  · rfl
  · rw [ini_cons, ini_cons]; simp
theorem first_split (c : UInt8) (l : Bs) : c ∉ l ∨ ∃ a r, l = a ++ c :: r ∧ c ∉ a ∧ r.length < l.length := by
  rcases index_one l c with ⟨_, h⟩ | ⟨i, _, h2, h3, h4⟩
  · exact .inl h
  · exact .inr ⟨l.take i, l.drop (i + 1), h4, h3, by simp; omega⟩
def wordOut (iw sm : Bool) (ps : List Bs) : Bs := if ps = [] then [] else lead iw sm ++ Lib.join (ps.map pieceI) [45]
theorem join_two (sep x : Bs) (r : List Bs) : Lib.join (x :: r) sep = x ++ (if r = [] then [] else sep ++ Lib.join r sep) := by
  cases r with
  | nil => simp [Lib.join_one]
  | cons y r =>
    rw [Lib.join_cons, Lib.join_cons]
    simp [Lib.joinTail]
theorem pieces_none (c : UInt8) (l : Bs) (h : c ∉ l) : piecesOf c l = if l = [] then [] else [l] := by
  unfold piecesOf; rw [splitC_none c l h]
  by_cases q : l = []
  · subst q; rfl
  · rw [if_neg q]; simp [nonE, q]
theorem pieces_at (c : UInt8) (a r : Bs) (h : c ∉ a) : piecesOf c (a ++ c :: r) = (if a = [] then [] else [a]) ++ piecesOf c r := by
  unfold piecesOf; rw [splitC_at c a r h, List.filter_cons]
  by_cases q : a = []
  · subst q; rfl
  · rw [if_neg q, if_pos (by simp [nonE, q])]; rfl
theorem ini_word : ∀ (n : Nat) (w t : Bs) (iw sm : Bool), w.length ≤ n → (32 : UInt8) ∉ w → TailOK t →
    ini (w ++ t) true iw sm = wordOut iw sm (piecesOf 45 w) ++ ini t true false (sm || !(piecesOf 45 w).isEmpty)
  | n, w, t, iw, sm, hn, h32, ht => by
    rcases first_split 45 w with h | ⟨a, r, rfl, ha, hr⟩
    · rw [pieces_none 45 w h]
      by_cases q : w = []
      · subst q
        rw [if_pos rfl, List.nil_append, ht.same]
        simp [wordOut]
      · rw [if_neg q, ini_piece w t iw sm q h32 h ht.low, ht.same]
        simp [wordOut, Lib.join_one]
    · cases n with
      | zero => simp at hn
      | succ n =>
        have h32a : (32 : UInt8) ∉ a := fun q => h32 (by simp [q])
        have h32r : (32 : UInt8) ∉ r := fun q => h32 (by simp [q])
        rw [pieces_at 45 a r ha]
        by_cases q : a = []
        · subst q
          rw [if_pos rfl, List.nil_append, List.nil_append, List.cons_append, ini_cons, if_neg (by decide), if_pos rfl]
          exact ini_word n r t iw sm (by simp at hr hn; omega) h32r ht
        · rw [if_neg q, List.append_assoc, List.cons_append, ini_piece a (45 :: (r ++ t)) iw sm q h32a ha (.inr (by show ((45 : UInt8).toNat : Int) < 128; decide)),
            ini_cons, if_neg (by decide), if_pos rfl, ini_word n r t true true (by simp at hr hn; omega) h32r ht]
          by_cases z : piecesOf 45 r = []
          · rw [z]; simp [wordOut, Lib.join_one]
          · have e1 : wordOut true true (piecesOf 45 r) = [45] ++ Lib.join ((piecesOf 45 r).map pieceI) [45] := by unfold wordOut; rw [if_neg z]; rfl
            have e2 : wordOut iw sm ([a] ++ piecesOf 45 r) = lead iw sm ++ (pieceI a ++ ([45] ++ Lib.join ((piecesOf 45 r).map pieceI) [45])) := by
              unfold wordOut; rw [if_neg (by simp), List.singleton_append, List.map_cons, join_two, if_neg (by simpa using z)]
            rw [e1, e2]; simp
theorem pieceI_ne (x : Bs) : pieceI x ≠ [] := by unfold pieceI; simp
theorem iniW_nil (w : Bs) : iniW w = [] ↔ piecesOf 45 w = [] := by
  unfold iniW
  constructor
  · intro h
    cases hp : piecesOf 45 w with
    | nil => rfl
    | cons a r =>
      rw [hp, List.map_cons, join_two] at h
      simp [pieceI_ne] at h
  · intro h; rw [h]; rfl
def wsOf (g : Bs) : List Bs := ((splitC 32 g).map iniW).filter nonE
def seqOut (sm : Bool) (ws : List Bs) : Bs := if ws = [] then [] else lead false sm ++ Lib.join ws [32]
theorem wordOut_iniW (sm : Bool) (w : Bs) : wordOut false sm (piecesOf 45 w) = seqOut sm ([iniW w].filter nonE) := by
  unfold wordOut seqOut
  by_cases h : piecesOf 45 w = []
  · rw [if_pos h, (iniW_nil w).2 h]; rfl
  · have hn : iniW w ≠ [] := fun q => h ((iniW_nil w).1 q)
    have e : [iniW w].filter nonE = [iniW w] := by simp [nonE, hn]
    rw [if_neg h, e, if_neg (by simp), Lib.join_one]; rfl
theorem ini_all : ∀ (n : Nat) (g : Bs) (sm : Bool), g.length ≤ n → ini g true false sm = seqOut sm (wsOf g)
  | n, g, sm, hn => by
    rcases first_split 32 g with h | ⟨a, r, rfl, ha, hr⟩
    · have := ini_word g.length g [] false sm (Nat.le_refl _) h (.inl rfl)
      rw [List.append_nil] at this
      rw [this, wordOut_iniW]
      unfold wsOf; rw [splitC_none 32 g h]
      simp [ini]
    · cases n with
      | zero => simp at hn
      | succ n =>
        rw [ini_word a.length a (32 :: r) false sm (Nat.le_refl _) ha (.inr ⟨r, rfl⟩), ini_cons, if_pos rfl, ini_all n r _ (by simp at hr hn; omega), wordOut_iniW]
        unfold wsOf
        rw [splitC_at 32 a r ha, List.map_cons, List.filter_cons (x := iniW a) (xs := (splitC 32 r).map iniW)]
        by_cases h : piecesOf 45 a = []
        · have e : iniW a = [] := (iniW_nil a).2 h
          have e2 : (piecesOf 45 a).isEmpty = true := by simp [h]
          rw [e, e2, if_neg (by simp [nonE])]
          simp [seqOut, nonE]
        · have hn : iniW a ≠ [] := fun q => h ((iniW_nil a).1 q)
          have e2 : (piecesOf 45 a).isEmpty = false := by simpa using h
          have e : [iniW a].filter nonE = [iniW a] := by simp [nonE, hn]
          rw [e, e2, if_pos (by simp [nonE, hn])]
          generalize ((splitC 32 r).map iniW).filter nonE = ws
          have e3 : seqOut sm [iniW a] = lead false sm ++ iniW a := by unfold seqOut; rw [if_neg (by simp), Lib.join_one]
          have e4 : seqOut sm (iniW a :: ws) = lead false sm ++ (iniW a ++ (if ws = [] then [] else [32] ++ Lib.join ws [32])) := by unfold seqOut; rw [if_neg (by simp), join_two]
          rw [e3, e4]
          unfold seqOut
          by_cases z : ws = []
          · rw [if_pos z, if_pos z]; simp
          · rw [if_neg z, if_neg z]; simp [lead]
theorem initials_ini (g : Bs) : initialsL g = ini g true false false := by
  rw [ini_all g.length g false (Nat.le_refl _)]
  unfold initialsL joinedL seqOut piecesOf
  have e : ∀ xs : List Bs, ((xs.filter nonE).map iniW).filter nonE = (xs.map iniW).filter nonE := by
    intro xs
    induction xs with
    | nil => rfl
    | cons a r ih =>
      rw [List.filter_cons, List.map_cons, List.filter_cons (x := iniW a)]
      by_cases q : a = []
      · subst q
        have : iniW [] = [] := rfl
        rw [this, if_neg (by simp [nonE]), if_neg (by simp [nonE]), ih]
      · rw [if_pos (by simp [nonE, q]), List.map_cons, List.filter_cons (x := iniW a), ih]
  rw [e]
  by_cases z : wsOf g = []
  · rw [if_pos z]; unfold wsOf at z; rw [z]; rfl
  · rw [if_neg z]; rfl
end Go.Proofs.YteflhlbgbgamnaaGreatDoor

/- Plain laws of persons: what is written is read back; spaces around commas do not matter. No condition. -/
set_option linter.all false
namespace Go.Proofs.YteflhlbgbgamnaaGreatDoor
open Go.RowKit

/-- Cleaning, byte by byte: 0: nothing is written yet; 1: no space is pending; 2: a space is pending. -/
def cz : Nat → Bs → Bs
  | _, [] => []
  | 0, b :: l => if b = 32 then cz 0 l else b :: cz 1 l
  | 1, b :: l => if b = 32 then cz 2 l else b :: cz 1 l
  | k + 2, b :: l => if b = 32 then cz (k + 2) l else 32 :: b :: cz 1 l
theorem cz_nil (k : Nat) : cz k [] = [] := by cases k with | zero => rfl | succ k => cases k <;> rfl
theorem cz_sp (k : Nat) (l : Bs) : cz k (32 :: l) = cz (if k = 1 then 2 else k) l := by
  match k with
  | 0 => rfl
  | 1 => rfl
  | k + 2 => rfl
theorem cz_ch (k : Nat) (b : UInt8) (l : Bs) (h : b ≠ 32) : cz k (b :: l) = (if 2 ≤ k then [32] else []) ++ b :: cz 1 l := by
  match k with
  | 0 => simp [cz, h]
  | 1 => simp [cz, h]
  | k + 2 => simp [cz, h]

theorem keepEnd_ns (o : Bs) (h : o.getLast? ≠ some 32) : keepEnd o = o := by unfold keepEnd; rw [if_neg h]
theorem last_snoc (o : Bs) (b : UInt8) (h : b ≠ 32) : (o ++ [b]).getLast? ≠ some 32 := by simp [h]
theorem cz_fold : ∀ (l o : Bs), o ≠ [] → o.getLast? ≠ some 32 →
    keepEnd (l.foldl keepStep o) = o ++ cz 1 l ∧ keepEnd (l.foldl keepStep (o ++ [32])) = o ++ cz 2 l
  | [], o, h0, h1 => by
    refine ⟨?_, ?_⟩
    · rw [List.foldl_nil, keepEnd_ns o h1, cz_nil, List.append_nil]
    · rw [List.foldl_nil, cz_nil, List.append_nil]; unfold keepEnd; simp
  | b :: l, o, h0, h1 => by
    rw [List.foldl_cons, List.foldl_cons]
    by_cases hb : b = 32
    · subst hb
      have e1 : keepStep o 32 = o ++ [32] := by unfold keepStep; rw [if_neg]; rintro ⟨_, h | h⟩; exact h0 h; exact h1 h
      have e2 : keepStep (o ++ [32]) 32 = o ++ [32] := by unfold keepStep; rw [if_pos]; exact ⟨rfl, .inr (by simp)⟩
      rw [e1, e2, cz_sp, cz_sp]
      exact ⟨(cz_fold l o h0 h1).2, (cz_fold l o h0 h1).2⟩
    · have e1 : ∀ o, keepStep o b = o ++ [b] := fun o => by unfold keepStep; rw [if_neg]; rintro ⟨h, _⟩; exact hb h
      rw [e1, e1, cz_ch 1 b l hb, cz_ch 2 b l hb, (cz_fold l (o ++ [b]) (by simp) (last_snoc o b hb)).1]
      rw [(cz_fold l (o ++ [32] ++ [b]) (by simp) (last_snoc _ b hb)).1]
      simp
theorem cz_zero : ∀ l : Bs, keepEnd (l.foldl keepStep []) = cz 0 l
  | [] => rfl
  | b :: l => by
    rw [List.foldl_cons]
    by_cases hb : b = 32
    · subst hb
      rw [show keepStep [] 32 = [] from rfl, cz_sp]
      exact cz_zero l
    · have e1 : keepStep [] b = [b] := by unfold keepStep; rw [if_neg]; rfl; rintro ⟨h, _⟩; exact hb h
      rw [e1, cz_ch 0 b l hb, (cz_fold l [b] (by simp) (last_snoc [] b hb)).1]
      rfl
theorem clean_cz (l : Bs) : cleanL l = cz 0 l := by rw [← keepEnd_eq, ← cz_zero]; rfl

theorem cz_idem : ∀ l : Bs, cz 1 (cz 1 l) = cz 1 l ∧ cz 1 (cz 2 l) = cz 2 l ∧ cz 0 (cz 0 l) = cz 0 l
  | [] => ⟨rfl, rfl, rfl⟩
  | b :: l => by
    obtain ⟨h1, h2, h3⟩ := cz_idem l
    by_cases hb : b = 32
    · subst hb
      simp only [cz_sp]
      exact ⟨h2, h2, h3⟩
    · rw [cz_ch 0 b l hb, cz_ch 1 b l hb, cz_ch 2 b l hb]
      refine ⟨?_, ?_, ?_⟩
      · show cz 1 (b :: cz 1 l) = b :: cz 1 l
        rw [cz_ch 1 b _ hb, h1]; rfl
      · show cz 1 (32 :: b :: cz 1 l) = 32 :: b :: cz 1 l
        rw [cz_sp]
        show cz 2 (b :: cz 1 l) = _
        rw [cz_ch 2 b _ hb, h1]; rfl
      · show cz 0 (b :: cz 1 l) = b :: cz 1 l
        rw [cz_ch 0 b _ hb, h1]; rfl
theorem clean_idem (l : Bs) : cleanL (cleanL l) = cleanL l := by rw [clean_cz l, clean_cz]; exact (cz_idem l).2.2

theorem cz_len (l : Bs) : ∀ k, (cz k l).length ≤ l.length + 1 := by
  induction l with
  | nil => intro k; rw [cz_nil]; simp
  | cons b l ih =>
    intro k
    by_cases hb : b = 32
    · subst hb; rw [cz_sp]; have := ih (if k = 1 then 2 else k); simp; omega
    · rw [cz_ch k b l hb]
      have h1 : (cz 1 l).length ≤ l.length := by
        have : ∀ l : Bs, (cz 1 l).length ≤ l.length ∧ (cz 2 l).length ≤ l.length + 1 := by
          intro l
          induction l with
          | nil => simp [cz_nil]
          | cons c l ih =>
            by_cases hc : c = 32
            · subst hc; rw [cz_sp, cz_sp]; simp; exact ⟨ih.2, by omega⟩
            · rw [cz_ch 1 c l hc, cz_ch 2 c l hc]; simp; exact ih.1
        exact (this l).1
      simp only [List.length_append, List.length_cons]
      split <;> simp <;> omega
/-- A text without spaces at its ends and side by side is left as it is, whatever follows. -/
theorem cz_fix : ∀ (n : Nat) (x t : Bs), x.length ≤ n → cz 1 x = x → cz 1 (x ++ t) = x ++ cz 1 t
  | _, [], t, _, _ => rfl
  | 0, _ :: _, _, h, _ => by simp at h
  | n + 1, b :: x, t, hn, h => by
    simp only [List.length_cons] at hn
    by_cases hb : b = 32
    · subst hb
      rw [cz_sp] at h
      simp only [if_true] at h
      cases x with
      | nil => rw [cz_nil] at h; cases h
      | cons c x =>
        by_cases hc : c = 32
        · subst hc
          have h' := congrArg List.length h
          rw [cz_sp] at h'
          have := cz_len x (if 2 = 1 then 2 else 2)
          simp at h' this; omega
        · rw [cz_ch 2 c x hc] at h
          simp only [Nat.le_refl, if_true, List.cons_append, List.nil_append, List.cons.injEq, true_and] at h
          simp only [List.cons_append]
          rw [cz_sp]
          simp only [if_true]
          rw [cz_ch 2 c _ hc, cz_fix n x t (by simp at hn; omega) h]
          simp
    · rw [cz_ch 1 b x hb] at h
      rw [if_neg (by omega)] at h; simp only [List.nil_append, List.cons.injEq, true_and] at h
      simp only [List.cons_append]
      rw [cz_ch 1 b _ hb, cz_fix n x t (by omega) h]
      simp
/-- What a clean text that is not empty becomes in each state. -/
theorem cz_part (k : Nat) (x t : Bs) (hx : x ≠ []) (h : x = cleanL x) : cz k (x ++ t) = (if 2 ≤ k then [32] else []) ++ x ++ cz 1 t := by
  rw [clean_cz] at h
  cases x with
  | nil => exact absurd rfl hx
  | cons b x =>
    have hb : b ≠ 32 := by
      rintro rfl
      have h' := congrArg List.length h
      rw [cz_sp] at h'
      have : (cz 0 x).length ≤ x.length := by
        have : ∀ l : Bs, (cz 1 l).length ≤ l.length ∧ (cz 2 l).length ≤ l.length + 1 ∧ (cz 0 l).length ≤ l.length := by
          intro l
          induction l with
          | nil => simp [cz_nil]
          | cons c l ih =>
            by_cases hc : c = 32
            · subst hc; rw [cz_sp, cz_sp, cz_sp]; simp; exact ⟨ih.2.1, by omega, by omega⟩
            · rw [cz_ch 0 c l hc, cz_ch 1 c l hc, cz_ch 2 c l hc]; simp; exact ih.1
        exact (this x).2.2
      simp at h'; omega
    rw [cz_ch 0 b x hb] at h
    rw [if_neg (by omega)] at h; simp only [List.nil_append, List.cons.injEq, true_and] at h
    have h : cz 1 x = x := h.symm
    simp only [List.cons_append]
    rw [cz_ch k b _ hb, cz_fix _ x t (Nat.le_refl _) h]
    simp
/-- What a beginning leaves: its text and the state. -/
theorem cz_split : ∀ (a : Bs) (k : Nat), ∃ pre k', (k = 0 → k' = 1 → pre ≠ []) ∧ ∀ t, cz k (a ++ t) = pre ++ cz k' t
  | [], k => ⟨[], k, fun h1 h2 => by omega, fun t => rfl⟩
  | b :: a, k => by
    by_cases hb : b = 32
    · subst hb
      by_cases h1 : k = 1
      · subst h1
        obtain ⟨pre, k', h2, h4⟩ := cz_split a 2
        exact ⟨pre, k', fun q => by omega, fun t => by rw [List.cons_append, cz_sp]; exact h4 t⟩
      · obtain ⟨pre, k', q2, q4⟩ := cz_split a k
        exact ⟨pre, k', q2, fun t => by rw [List.cons_append, cz_sp, if_neg h1]; exact q4 t⟩
    · obtain ⟨pre, k', q2, q4⟩ := cz_split a 1
      exact ⟨(if 2 ≤ k then [32] else []) ++ b :: pre, k', fun _ _ => by simp, fun t => by
        rw [List.cons_append, cz_ch k b _ hb, q4 t]; simp⟩
theorem cz_two (b : Bs) : cz 2 b = cz 1 b ∨ cz 2 b = 32 :: cz 1 b := by
  cases b with
  | nil => left; rfl
  | cons c b =>
    by_cases hc : c = 32
    · subst hc; left; rw [cz_sp, cz_sp]; rfl
    · right; rw [cz_ch 1 c b hc, cz_ch 2 c b hc]; rfl
def spaces (n : Nat) : Bs := List.replicate n 32
theorem cz_spaces (n : Nat) (t : Bs) (k : Nat) : cz k (spaces n ++ t) = cz (if n = 0 then k else if k = 1 then 2 else k) t := by
  induction n generalizing k with
  | zero => rfl
  | succ n ih =>
    show cz k (32 :: (spaces n ++ t)) = _
    rw [cz_sp, ih]
    congr 1
    by_cases h1 : k = 1
    · subst h1; simp
    · rw [if_neg h1]; simp [h1]
/-- A comma with spaces about it, in a cleaned text. -/
theorem clean_comma (a b : Bs) (m n : Nat) : ∃ o o' X Y : Bs, cleanL (a ++ 44 :: b) = o ++ 44 :: X ∧ cleanL (a ++ (spaces m ++ 44 :: (spaces n ++ b))) = o' ++ 44 :: Y ∧ (o' = o ∨ o ≠ [] ∧ o' = o ++ [32]) ∧ (Y = X ∨ Y = 32 :: X) := by
  obtain ⟨pre, k, h1, h⟩ := cz_split a 0
  rw [clean_cz, clean_cz, h, h, cz_ch k 44 b (by decide), cz_spaces, cz_ch _ 44 _ (by decide), cz_spaces]
  have hY : cz (if n = 0 then 1 else if 1 = 1 then 2 else 1) b = cz 1 b ∨ cz (if n = 0 then 1 else if 1 = 1 then 2 else 1) b = 32 :: cz 1 b := by
    by_cases q : n = 0
    · rw [if_pos q]; exact .inl rfl
    · rw [if_neg q]; exact cz_two b
  generalize cz (if n = 0 then 1 else if 1 = 1 then 2 else 1) b = Y at *
  by_cases q : m = 0
  · rw [if_pos q]
    refine ⟨pre ++ (if 2 ≤ k then [32] else []), _, cz 1 b, Y, by simp, by rw [List.append_assoc], .inl rfl, hY⟩
  · rw [if_neg q]
    by_cases q1 : k = 1
    · subst q1
      refine ⟨pre, pre ++ [32], cz 1 b, Y, by simp, by simp, .inr ⟨h1 rfl rfl, rfl⟩, hY⟩
    · rw [if_neg q1]
      refine ⟨pre ++ (if 2 ≤ k then [32] else []), _, cz 1 b, Y, by simp, by rw [List.append_assoc], .inl rfl, hY⟩
theorem clean_head (n : Nat) (l : Bs) : cleanL (spaces n ++ l) = cleanL l := by
  rw [clean_cz, clean_cz, cz_spaces]; simp
theorem clean_tail (n : Nat) (l : Bs) : cleanL (l ++ spaces n) = cleanL l := by
  obtain ⟨pre, k, _, h⟩ := cz_split l 0
  have e := h (spaces n)
  have e2 := h []
  rw [List.append_nil] at e2
  rw [clean_cz, clean_cz, e, e2]
  have := cz_spaces n [] k
  rw [List.append_nil] at this
  rw [this, cz_nil, cz_nil]
theorem clean_sp (l : Bs) : cleanL (32 :: l) = cleanL l := clean_head 1 l
theorem clean_snoc (l : Bs) : cleanL (l ++ [32]) = cleanL l := clean_tail 1 l

/-- The bytes of a cleaned text. -/
theorem cz_mem (l : Bs) (b : UInt8) : ∀ k, b ∈ cz k l → b ∈ l ∨ b = 32 := by
  induction l with
  | nil => intro k h; rw [cz_nil] at h; cases h
  | cons c l ih =>
    intro k h
    by_cases hc : c = 32
    · subst hc; rw [cz_sp] at h; rcases ih _ h with h | h
      · left; simp [h]
      · right; exact h
    · rw [cz_ch k c l hc] at h
      simp only [List.mem_append, List.mem_cons] at h
      rcases h with h | h | h
      · right; split at h <;> simp at h; exact h
      · left; simp [h]
      · rcases ih _ h with h | h
        · left; simp [h]
        · right; exact h
theorem clean_mem (l : Bs) (b : UInt8) (h : b ∈ cleanL l) : b ∈ l ∨ b = 32 := by rw [clean_cz] at h; exact cz_mem l b 0 h
theorem mem_cz (l : Bs) (b : UInt8) (hb : b ≠ 32) : ∀ k, b ∈ l → b ∈ cz k l := by
  induction l with
  | nil => intro k h; cases h
  | cons c l ih =>
    intro k h
    by_cases hc : c = 32
    · subst hc
      rw [cz_sp]
      rcases List.mem_cons.1 h with h | h
      · exact absurd h hb
      · exact ih _ h
    · rw [cz_ch k c l hc]
      simp only [List.mem_append, List.mem_cons]
      rcases List.mem_cons.1 h with h | h
      · exact .inr (.inl h)
      · exact .inr (.inr (ih _ h))
theorem mem_clean (l : Bs) (b : UInt8) (hb : b ≠ 32) (h : b ∈ l) : b ∈ cleanL l := by rw [clean_cz]; exact mem_cz l b hb 0 h
end Go.Proofs.YteflhlbgbgamnaaGreatDoor
