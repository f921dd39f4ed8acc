/- Plain laws of persons, second part: lines are lines piece by piece; what is written is read back; spaces around commas do not matter. No condition. -/
import Derived.Test.YteflhlbgbgamnaaGreatDoorT35
import Derived.Test.YteflhlbgbgamnaaGreatDoorT34
import Derived.Test.YteflhlbgbgamnaaGreatDoorT33
import Derived.Test.YteflhlbgbgamnaaGreatDoorT09

set_option linter.all false
namespace Go.Proofs.YteflhlbgbgamnaaGreatDoor
open Go.RowKit

theorem line_sp (l : Bs) : lineB (32 :: l) = lineB l := by
  have := line_at 32 (by decide) [] l
  rw [line_nil, Bool.true_and] at this; exact this
theorem line_spaces (n : Nat) (l : Bs) : lineB (spaces n ++ l) = lineB l := by
  induction n with
  | zero => rfl
  | succ n ih => show lineB (32 :: (spaces n ++ l)) = _; rw [line_sp, ih]
theorem line_end (n : Nat) (l : Bs) : lineB (l ++ spaces n) = lineB l := by
  induction n with
  | zero => rw [show spaces 0 = [] from rfl, List.append_nil]
  | succ n ih =>
    rw [show spaces (n + 1) = 32 :: spaces n from rfl, line_at 32 (by decide)]
    have := line_spaces n []
    rw [List.append_nil, line_nil] at this
    rw [this, Bool.and_true]
theorem line_split (c : UInt8) (hc : 32 ≤ (c.toNat : Int) ∧ (c.toNat : Int) < 127) : ∀ (n : Nat) (l : Bs), l.length ≤ n → lineB l = (splitC c l).all lineB
  | n, l, hn => by
    rcases first_split c l with h | ⟨a, r, rfl, ha, hr⟩
    · rw [splitC_none c l h]; simp
    · cases n with
      | zero => simp at hn
      | succ n =>
        rw [splitC_at c a r ha, line_at c hc, List.all_cons, line_split c hc n r (by simp at hn hr; omega)]
theorem line_join : ∀ xs : List Bs, lineB (Lib.join xs [32]) = xs.all lineB
  | [] => by rw [Lib.join_nil, line_nil]; rfl
  | x :: xs => by
    rw [join_two, List.all_cons]
    by_cases h : xs = []
    · subst h; simp
    · rw [if_neg h]
      show lineB (x ++ 32 :: Lib.join xs [32]) = _
      rw [line_at 32 (by decide), line_join xs]
theorem all_filter (p : Bs → Bool) (h : p [] = true) : ∀ xs : List Bs, (xs.filter (fun x => !x.isEmpty)).all p = xs.all p
  | [] => rfl
  | x :: xs => by
    rw [List.filter_cons]
    by_cases q : x = []
    · subst q; simp [h, all_filter p h xs]
    · rw [if_pos (by simp [q]), List.all_cons, List.all_cons, all_filter p h xs]
theorem line_clean (l : Bs) : lineB (cleanL l) = lineB l := by
  unfold cleanL wordsOf
  rw [line_join, all_filter lineB line_nil, ← line_split 32 (by decide) _ l (Nat.le_refl _)]

/-- What follows behind the cleaning. -/
def bodyR (t : Bs) : Int × P4 := match restP t with | none => (5, zero4) | some (p, t) => restR p t
theorem parseR_body (l : Bs) : parseR l = if lineB l = true then bodyR (cleanL l) else (17, zero4) := rfl

theorem splitC_two (c : UInt8) : ∀ (n : Nat) (a b : Bs), a.length ≤ n → splitC c (a ++ c :: b) = splitC c a ++ splitC c b
  | n, a, b, hn => by
    rcases first_split c a with h | ⟨x, r, rfl, hx, hr⟩
    · rw [splitC_at c a b h, splitC_none c a h]; rfl
    · cases n with
      | zero => simp at hn
      | succ n =>
        rw [List.append_assoc, List.cons_append, splitC_at c x _ hx, splitC_at c x _ hx, splitC_two c n r b (by simp at hn hr; omega)]
        rfl
def threeF : List Bs → Bs × Bs × Bs
  | [a] => (a, [], [])
  | [a, b] => (a, b, [])
  | [a, b, c] => (a, c, b)
  | _ => ([], [], [])
theorem fields_of (t : Bs) : fieldsP t = threeF ((splitC 44 t).map cleanL) := by
  unfold fieldsP
  generalize splitC 44 t = xs
  match xs with
  | [] => rfl
  | [a] => rfl
  | [a, b] => rfl
  | [a, b, c] => rfl
  | a :: b :: c :: d :: r => rfl
theorem map_head (X : Bs) : (splitC 44 (32 :: X)).map cleanL = (splitC 44 X).map cleanL := by
  rcases first_split 44 X with h | ⟨a, r, rfl, ha, _⟩
  · rw [splitC_none 44 X h, splitC_none 44 (32 :: X) (by simp [h])]; simp [clean_sp]
  · rw [splitC_at 44 a r ha, ← List.cons_append, splitC_at 44 (32 :: a) r (by simp [ha])]; simp [clean_sp]
theorem map_last (o : Bs) : (splitC 44 (o ++ [32])).map cleanL = (splitC 44 o).map cleanL := by
  unfold splitC
  rw [runC_snoc]
  unfold stepC
  rw [if_neg (by decide)]
  simp [clean_snoc]

/-- The rest's answer depends on what its fields are, cleaned. -/
theorem restR_same (p o o' X Y : Bs) (ho : o' = o ∨ o' = o ++ [32]) (hY : Y = X ∨ Y = 32 :: X) : restR p (o' ++ 44 :: Y) = restR p (o ++ 44 :: X) := by
  have e1 : (splitC 44 (o' ++ 44 :: Y)).map cleanL = (splitC 44 (o ++ 44 :: X)).map cleanL := by
    rw [splitC_two 44 _ o' Y (Nat.le_refl _), splitC_two 44 _ o X (Nat.le_refl _), List.map_append, List.map_append]
    congr 1
    · rcases ho with rfl | rfl
      · rfl
      · exact map_last o
    · rcases hY with rfl | rfl
      · rfl
      · exact map_head X
  have e2 : fieldsP (o' ++ 44 :: Y) = fieldsP (o ++ 44 :: X) := by rw [fields_of, fields_of, e1]
  have e3 : badP p (o' ++ 44 :: Y) ↔ badP p (o ++ 44 :: X) := by
    unfold badP
    have c : (o' ++ 44 :: Y).count 44 = (o ++ 44 :: X).count 44 := by
      rcases ho with rfl | rfl <;> rcases hY with rfl | rfl <;> simp [List.count_cons, List.count_append]
    have a : (o' ++ 44 :: Y).any (inSet setN) = (o ++ 44 :: X).any (inSet setN) := by
      have s32 : inSet setN 32 = false := by decide
      rcases ho with rfl | rfl <;> rcases hY with rfl | rfl <;> simp [List.any_append, s32]
    rw [c, a]
  unfold restR
  rw [e2]
  by_cases h : badP p (o ++ 44 :: X)
  · rw [if_pos h, if_pos (e3.2 h)]
  · rw [if_neg h, if_neg (fun q => h (e3.1 q))]
theorem before_at (c : UInt8) : ∀ (m r : Bs), c ∉ m → before c (m ++ c :: r) = m.length
  | [], r, _ => by unfold before; simp
  | b :: m, r, h => by
    have hb : b ≠ c := fun e => h (by simp [e])
    have := before_at c m r (fun e => h (by simp [e]))
    unfold before at this ⊢
    rw [List.cons_append, List.takeWhile_cons, if_pos (by simpa using hb), List.length_cons, this]; rfl
theorem before_not (c : UInt8) (m : Bs) (h : c ∉ m) : before c m = m.length := by
  induction m with
  | nil => rfl
  | cons b m ih =>
    have hb : b ≠ c := fun e => h (by simp [e])
    have := ih (fun e => h (by simp [e]))
    unfold before at this ⊢
    rw [List.takeWhile_cons, if_pos (by simpa using hb), List.length_cons, this]; rfl
theorem restP_brace (r : Bs) : restP (123 :: r) = if before 125 r < r.length then some (cleanL (r.take (before 125 r)), r.drop (before 125 r + 1)) else none := by
  unfold restP; simp only [if_true]
theorem body_brace (m r : Bs) (h : (125 : UInt8) ∉ m) : bodyR (123 :: (m ++ 125 :: r)) = restR (cleanL m) r := by
  unfold bodyR
  rw [restP_brace, before_at 125 m r h, if_pos (by simp)]
  have e1 : (m ++ 125 :: r).take m.length = m := List.take_left' rfl
  have e2 : (m ++ 125 :: r).drop (m.length + 1) = r := by
    rw [← List.drop_drop, List.drop_left' rfl]; rfl
  rw [e1, e2]
theorem body_open (m : Bs) (h : (125 : UInt8) ∉ m) : bodyR (123 :: m) = (5, zero4) := by
  unfold bodyR
  rw [restP_brace, before_not 125 m h, if_neg (Nat.lt_irrefl _)]
theorem body_bare (t : Bs) (h : ∀ r, t ≠ 123 :: r) : bodyR t = restR [] t := by
  unfold bodyR restP
  cases t with
  | nil => rfl
  | cons x r => simp only; rw [if_neg (fun q => h r (by rw [q]))]
theorem body_comma (o X : Bs) (h : (125 : UInt8) ∉ o) : bodyR (123 :: (o ++ 44 :: X)) = (5, zero4) := by
  rcases first_split 125 X with hX | ⟨a, r, rfl, ha, _⟩
  · exact body_open _ (by simp [h, hX])
  · have : o ++ 44 :: (a ++ 125 :: r) = (o ++ 44 :: a) ++ 125 :: r := by simp
    rw [this, body_brace _ r (by simp [h, ha])]
    unfold restR
    rw [if_pos]
    right; left
    rw [List.any_eq_true]
    exact ⟨44, mem_clean _ 44 (by decide) (by simp), by decide⟩
theorem body_same (o o' X Y : Bs) (ho : o' = o ∨ o ≠ [] ∧ o' = o ++ [32]) (hY : Y = X ∨ Y = 32 :: X) : bodyR (o' ++ 44 :: Y) = bodyR (o ++ 44 :: X) := by
  have ho2 : o' = o ∨ o' = o ++ [32] := by rcases ho with h | ⟨_, h⟩; exact .inl h; exact .inr h
  cases o with
  | nil =>
    obtain rfl : o' = [] := by rcases ho with h | ⟨h, _⟩; exact h; exact absurd rfl h
    rw [body_bare _ (by intro r q; simp at q), body_bare _ (by intro r q; simp at q)]
    exact restR_same [] [] [] X Y (.inl rfl) hY
  | cons c o =>
    obtain ⟨o1, rfl, h1⟩ : ∃ o1, o' = c :: o1 ∧ (o1 = o ∨ o1 = o ++ [32]) := by
      rcases ho2 with rfl | rfl
      · exact ⟨o, rfl, .inl rfl⟩
      · exact ⟨o ++ [32], rfl, .inr rfl⟩
    by_cases hc : c = 123
    · subst hc
      rw [List.cons_append, List.cons_append]
      rcases first_split 125 o with h | ⟨m, r, rfl, hm, _⟩
      · rw [body_comma o X h, body_comma o1 Y (by rcases h1 with rfl | rfl <;> simp [h])]
      · obtain ⟨r1, rfl, hr⟩ : ∃ r1, o1 = m ++ 125 :: r1 ∧ (r1 = r ∨ r1 = r ++ [32]) := by
          rcases h1 with rfl | rfl
          · exact ⟨r, rfl, .inl rfl⟩
          · exact ⟨r ++ [32], by simp, .inr rfl⟩
        rw [List.append_assoc, List.append_assoc, List.cons_append, List.cons_append, body_brace m _ hm, body_brace m _ hm]
        exact restR_same _ r r1 X Y hr hY
    · rw [body_bare _ (by intro r q; simp at q; exact hc q.1), body_bare _ (by intro r q; simp at q; exact hc q.1)]
      exact restR_same [] (c :: o) (c :: o1) X Y ho2 hY
/-- Spaces around one comma do not matter. -/
theorem parse_comma (a b : Bs) (m n : Nat) : parseR (a ++ (spaces m ++ 44 :: (spaces n ++ b))) = parseR (a ++ 44 :: b) := by
  rw [parseR_body, parseR_body]
  have hl : lineB (a ++ (spaces m ++ 44 :: (spaces n ++ b))) = lineB (a ++ 44 :: b) := by
    rw [← List.append_assoc, line_at 44 (by decide), line_at 44 (by decide), line_end, line_spaces]
  obtain ⟨o, o', X, Y, h1, h2, h3, h4⟩ := clean_comma a b m n
  rw [hl, h1, h2, body_same o o' X Y h3 h4]
theorem parse_head (n : Nat) (l : Bs) : parseR (spaces n ++ l) = parseR l := by
  rw [parseR_body, parseR_body, line_spaces, clean_head]
theorem parse_tail (n : Nat) (l : Bs) : parseR (l ++ spaces n) = parseR l := by
  rw [parseR_body, parseR_body, line_end, clean_tail]
/-- The text with spaces around its commas. -/
def wideL (n : Nat) (l : Bs) : Bs := l.flatMap fun b => if b = 44 then spaces n ++ 44 :: spaces n else [b]
theorem parse_wide (n : Nat) : ∀ (l pre : Bs), parseR (pre ++ wideL n l) = parseR (pre ++ l)
  | [], pre => rfl
  | b :: l, pre => by
    unfold wideL
    rw [List.flatMap_cons]
    by_cases h : b = 44
    · subst h
      rw [if_pos rfl]
      have e : pre ++ (spaces n ++ 44 :: spaces n ++ l.flatMap fun b => if b = 44 then spaces n ++ 44 :: spaces n else [b]) = (pre ++ (spaces n ++ 44 :: spaces n)) ++ wideL n l := by simp [wideL]
      rw [e, parse_wide n l]
      have e2 : pre ++ (spaces n ++ 44 :: spaces n) ++ l = pre ++ (spaces n ++ 44 :: (spaces n ++ l)) := by simp
      rw [e2, parse_comma]
    · rw [if_neg h]
      have e : pre ++ ([b] ++ l.flatMap fun b => if b = 44 then spaces n ++ 44 :: spaces n else [b]) = (pre ++ [b]) ++ wideL n l := by simp [wideL]
      rw [e, parse_wide n l]; simp
theorem parse_spaces (n : Nat) (l : Bs) : parseR (spaces n ++ wideL n l ++ spaces n) = parseR l := by
  rw [parse_tail, parse_head]
  exact parse_wide n l []

/-- What a part of a name is. -/
theorem part_parts (x : Bs) (h : partB x = true) : lineB x = true ∧ (∀ b ∈ x, inSet setC b = false) ∧ x = cleanL x := by
  unfold partB at h
  simp only [Bool.and_eq_true, Bool.not_eq_true', beq_iff_eq] at h
  refine ⟨h.1.1, ?_, h.2⟩
  have := h.1.2
  rw [List.any_eq_false] at this
  intro b hb; simpa using this b hb
theorem part_mk (x : Bs) (h1 : lineB x = true) (h2 : ∀ b ∈ x, inSet setC b = false) (h3 : x = cleanL x) : partB x = true := by
  unfold partB
  have : x.any (inSet setC) = false := by rw [List.any_eq_false]; intro b hb; simp [h2 b hb]
  rw [h1, this]; simpa using h3
theorem part_not (x : Bs) (h : ∀ b ∈ x, inSet setC b = false) (c : UInt8) (hc : inSet setC c = true) : c ∉ x := fun q => by
  have := h c q; rw [hc] at this; cases this
/-- The rest of a written person. -/
def tailS (g s : Bs) : Bs := if s = [] then (if g = [] then [] else [44, 32] ++ g) else [44, 32] ++ s ++ [44] ++ (if g = [] then [] else [32] ++ g)
theorem textS_tail (f g p s : Bs) : textS f g p s = (if p = [] then f else [123] ++ p ++ [125, 32] ++ f) ++ tailS g s := rfl
theorem cz_tail (g s : Bs) (hg : g = cleanL g) (hs : s = cleanL s) : cz 1 (tailS g s) = tailS g s := by
  have two : ∀ (x t : Bs), x ≠ [] → x = cleanL x → cz 1 ([44, 32] ++ x ++ t) = [44, 32] ++ x ++ cz 1 t := by
    intro x t hx hc
    have e : [44, 32] ++ x ++ t = 44 :: 32 :: (x ++ t) := by simp
    rw [e, cz_ch 1 44 _ (by decide), cz_sp, if_pos rfl, cz_part 2 x t hx hc]; simp
  unfold tailS
  by_cases h1 : s = []
  · rw [if_pos h1]
    by_cases h2 : g = []
    · rw [if_pos h2]; rfl
    · rw [if_neg h2]
      have := two g [] h2 hg
      rw [List.append_nil] at this
      rw [this, cz_nil, List.append_nil]
  · rw [if_neg h1, List.append_assoc ([44, 32] ++ s), two s _ h1 hs]
    congr 1
    by_cases h2 : g = []
    · rw [if_pos h2]; rfl
    · rw [if_neg h2]
      show cz 1 (44 :: 32 :: g) = 44 :: 32 :: g
      have := two g [] h2 hg
      rw [List.append_nil] at this
      have e : (44 : UInt8) :: 32 :: g = [44, 32] ++ g := rfl
      rw [e, this, cz_nil, List.append_nil]
theorem clean_text (f g p s : Bs) (hf : f ≠ []) (cf : f = cleanL f) (cg : g = cleanL g) (cp : p = cleanL p) (cs : s = cleanL s) : cleanL (textS f g p s) = textS f g p s := by
  rw [textS_tail, clean_cz]
  by_cases hp : p = []
  · rw [if_pos hp, cz_part 0 f _ hf cf, cz_tail g s cg cs]; simp
  · rw [if_neg hp]
    have e : [123] ++ p ++ [125, 32] ++ f ++ tailS g s = 123 :: (p ++ (125 :: 32 :: (f ++ tailS g s))) := by simp
    rw [e, cz_ch 0 123 _ (by decide), cz_part 1 p _ hp cp, cz_ch 1 125 _ (by decide), cz_sp, if_pos rfl, cz_part 2 f _ hf cf, cz_tail g s cg cs]
    simp
theorem line_two (x : Bs) (t : Bs) : lineB ([44, 32] ++ x ++ t) = lineB (x ++ t) := by
  have e : [44, 32] ++ x ++ t = [] ++ 44 :: 32 :: (x ++ t) := by simp
  rw [e, line_at 44 (by decide), line_sp, line_nil]; simp
theorem line_text (f g p s : Bs) (lf : lineB f = true) (lg : lineB g = true) (lp : lineB p = true) (ls : lineB s = true) : lineB (textS f g p s) = true := by
  have ht : ∀ x, lineB x = true → lineB (x ++ tailS g s) = true := by
    intro x hx
    unfold tailS
    by_cases h1 : s = []
    · rw [if_pos h1]
      by_cases h2 : g = []
      · rw [if_pos h2, List.append_nil]; exact hx
      · rw [if_neg h2]
        show lineB (x ++ 44 :: 32 :: g) = true
        rw [line_at 44 (by decide), line_sp, hx, lg]; rfl
    · rw [if_neg h1]
      have e : x ++ ([44, 32] ++ s ++ [44] ++ if g = [] then [] else [32] ++ g) = x ++ 44 :: 32 :: (s ++ 44 :: (if g = [] then [] else [32] ++ g)) := by simp
      rw [e, line_at 44 (by decide), line_sp, line_at 44 (by decide), hx, ls]
      by_cases h2 : g = []
      · rw [if_pos h2, line_nil]; rfl
      · rw [if_neg h2]
        show (true && (true && lineB (32 :: g))) = true
        rw [line_sp, lg]; rfl
  rw [textS_tail]
  refine ht _ ?_
  by_cases hp : p = []
  · rw [if_pos hp]; exact lf
  · rw [if_neg hp]
    have e : [123] ++ p ++ [125, 32] ++ f = [] ++ 123 :: (p ++ 125 :: 32 :: f) := by simp
    rw [e, line_at 123 (by decide), line_at 125 (by decide), line_sp, line_nil, lp, lf]; rfl
theorem split_tail (x g s : Bs) (hx : (44 : UInt8) ∉ x) (hg : (44 : UInt8) ∉ g) (hs : (44 : UInt8) ∉ s) (cg : g = cleanL g) (cs : s = cleanL s) :
    fieldsP (x ++ tailS g s) = (cleanL x, g, s) := by
  have cnil : cleanL [] = [] := by rw [clean_cz]; rfl
  unfold tailS
  by_cases h1 : s = []
  · rw [if_pos h1]
    by_cases h2 : g = []
    · rw [if_pos h2, List.append_nil, fields1 x x (splitC_none 44 x hx), h1, h2]
    · rw [if_neg h2]
      show fieldsP (x ++ 44 :: 32 :: g) = _
      have q : (44 : UInt8) ∉ (32 :: g) := by simp [hg]
      rw [fields2 _ x (32 :: g) (by rw [splitC_at 44 x _ hx, splitC_none 44 _ q]), clean_sp, ← cg, h1]
  · rw [if_neg h1]
    have q : (44 : UInt8) ∉ (32 :: s) := by simp [hs]
    have e : x ++ ([44, 32] ++ s ++ [44] ++ if g = [] then [] else [32] ++ g) = x ++ 44 :: ((32 :: s) ++ 44 :: (if g = [] then [] else [32] ++ g)) := by simp
    have q2 : (44 : UInt8) ∉ (if g = [] then ([] : Bs) else [32] ++ g) := by split <;> simp [hg]
    rw [e, fields3 _ x (32 :: s) (if g = [] then [] else [32] ++ g) (by rw [splitC_at 44 x _ hx, splitC_at 44 _ _ q, splitC_none 44 _ q2]), clean_sp, ← cs]
    by_cases h2 : g = []
    · rw [if_pos h2, cnil, h2]
    · rw [if_neg h2]
      show (cleanL x, cleanL (32 :: g), s) = _
      rw [clean_sp, ← cg]
/-- What is written is read back. -/
theorem parse_text (f g p s : Bs) (h : textE f g p s = 0) : parseR (textS f g p s) = (0, (f, g, p, s)) := by
  unfold textE at h
  by_cases hf : f = []
  · rw [if_pos hf] at h; cases h
  rw [if_neg hf] at h
  have hp : (partB f && partB g && partB p && partB s) = true := by
    cases q : (partB f && partB g && partB p && partB s)
    · rw [q] at h; cases h
    · rfl
  simp only [Bool.and_eq_true] at hp
  obtain ⟨lf, nf, cf⟩ := part_parts f hp.1.1.1
  obtain ⟨lg, ng, cg⟩ := part_parts g hp.1.1.2
  obtain ⟨lp, np, cp⟩ := part_parts p hp.1.2
  obtain ⟨ls, ns, cs⟩ := part_parts s hp.2
  have f44 := part_not f nf 44 (by decide)
  have g44 := part_not g ng 44 (by decide)
  have s44 := part_not s ns 44 (by decide)
  rw [parseR_body, line_text f g p s lf lg lp ls, if_pos rfl, clean_text f g p s hf cf cg cp cs, textS_tail]
  have hN : ∀ b, inSet setN b = true → inSet setC b = true := by
    intro b hb
    simp only [inSet, setN, setC, List.contains_cons, List.contains_nil, Bool.or_false, Bool.or_eq_true, beq_iff_eq] at hb ⊢
    rcases hb with h | h | h
    · exact .inr (.inl h)
    · exact .inr (.inr (.inl h))
    · exact .inr (.inr (.inr h))
  have hNx : ∀ x : Bs, (∀ b ∈ x, inSet setC b = false) → x.any (inSet setN) = false := by
    intro x hx
    rw [List.any_eq_false]
    intro b hb q
    have := hN b q; rw [hx b hb] at this; cases this
  have cnt : ∀ x : Bs, (44 : UInt8) ∉ x → (x ++ tailS g s).count 44 ≤ 2 := by
    intro x hx
    have e1 : x.count 44 = 0 := List.count_eq_zero.2 hx
    have e2 : g.count 44 = 0 := List.count_eq_zero.2 g44
    have e3 : s.count 44 = 0 := List.count_eq_zero.2 s44
    unfold tailS
    rw [List.count_append, e1]
    by_cases h1 : s = []
    · rw [if_pos h1]
      by_cases h2 : g = []
      · rw [if_pos h2]; simp
      · rw [if_neg h2, List.count_append, e2]; simp
    · rw [if_neg h1, List.count_append, List.count_append, List.count_append, e3]
      by_cases h2 : g = []
      · rw [if_pos h2]; simp
      · rw [if_neg h2, List.count_append, e2]; simp
  have tN : (tailS g s).any (inSet setN) = false := by
    have a := hNx g ng
    have b := hNx s ns
    have c1 : inSet setN 44 = false := by decide
    have c2 : inSet setN 32 = false := by decide
    unfold tailS
    by_cases h1 : s = []
    · rw [if_pos h1]
      by_cases h2 : g = []
      · rw [if_pos h2]; rfl
      · rw [if_neg h2, List.any_append, a]; simp [c1, c2]
    · rw [if_neg h1, List.any_append, List.any_append, List.any_append, b]
      by_cases h2 : g = []
      · rw [if_pos h2]; simp [c1, c2]
      · rw [if_neg h2, List.any_append, a]; simp [c1, c2]
  have pC : p.any (inSet setC) = false := by rw [List.any_eq_false]; intro b hb; simp [np b hb]
  by_cases hp0 : p = []
  · rw [if_pos hp0]
    have hbare : ∀ r, f ++ tailS g s ≠ 123 :: r := by
      intro r q
      cases f with
      | nil => exact hf rfl
      | cons c f =>
        simp only [List.cons_append, List.cons.injEq] at q
        have := nf 123 (by rw [← q.1]; simp)
        revert this; decide
    rw [body_bare _ hbare]
    unfold restR
    rw [if_neg, split_tail f g s f44 g44 s44 cg cs, if_neg (by rw [← cf]; exact hf), ← cf, hp0]
    unfold badP
    rintro (q | q | q)
    · have := cnt f f44; omega
    · cases q
    · rw [List.any_append, hNx f nf, tN] at q; cases q
  · rw [if_neg hp0]
    have e : [123] ++ p ++ [125, 32] ++ f ++ tailS g s = 123 :: (p ++ 125 :: ((32 :: f) ++ tailS g s)) := by simp
    have q44 : (44 : UInt8) ∉ (32 :: f) := by simp [f44]
    rw [e, body_brace p _ (part_not p np 125 (by decide)), ← cp]
    unfold restR
    rw [if_neg, split_tail (32 :: f) g s q44 g44 s44 cg cs, clean_sp, if_neg (by rw [← cf]; exact hf), ← cf]
    unfold badP
    rintro (q | q | q)
    · have := cnt (32 :: f) q44; omega
    · rw [pC] at q; cases q
    · have c2 : inSet setN 32 = false := by decide
      rw [List.any_append, List.any_cons, hNx f nf, tN, c2] at q; cases q

theorem split_mem (c : UInt8) : ∀ (n : Nat) (l : Bs), l.length ≤ n → ∀ x ∈ splitC c l, ∀ b ∈ x, b ∈ l ∧ b ≠ c
  | n, l, hn => by
    rcases first_split c l with h | ⟨a, r, rfl, ha, hr⟩
    · rw [splitC_none c l h]
      intro x hx b hb
      simp only [List.mem_singleton] at hx
      subst hx
      exact ⟨hb, fun q => h (by rw [← q]; exact hb)⟩
    · cases n with
      | zero => simp at hn
      | succ n =>
        rw [splitC_at c a r ha]
        intro x hx b hb
        rcases List.mem_cons.1 hx with rfl | hx
        · exact ⟨by simp [hb], fun q => ha (by rw [← q]; exact hb)⟩
        · have := split_mem c n r (by simp at hn hr; omega) x hx b hb
          exact ⟨by simp [this.1], this.2⟩
theorem setC_cases (b : UInt8) (h : inSet setC b = true) : b = 44 ∨ inSet setN b = true := by
  simp only [inSet, setN, setC, List.contains_cons, List.contains_nil, Bool.or_false, Bool.or_eq_true, beq_iff_eq] at h ⊢
  rcases h with h | h | h | h
  · exact .inl h
  · exact .inr (.inl h)
  · exact .inr (.inr (.inl h))
  · exact .inr (.inr (.inr h))
/-- A field of a line without barred bytes is a part. -/
theorem part_field (t x : Bs) (hl : lineB t = true) (hn : t.any (inSet setN) = false) (hx : x ∈ splitC 44 t) : partB (cleanL x) = true := by
  refine part_mk _ ?_ ?_ (clean_idem x).symm
  · rw [line_clean]
    rw [line_split 44 (by decide) _ t (Nat.le_refl _), List.all_eq_true] at hl
    exact hl x hx
  · intro b hb
    rcases clean_mem x b hb with h | h
    · have := split_mem 44 _ t (Nat.le_refl _) x hx b h
      cases q : inSet setC b
      · rfl
      · rcases setC_cases b q with e | e
        · exact absurd e this.2
        · rw [List.any_eq_false] at hn
          exact absurd e (hn b this.1)
    · rw [h]; decide
theorem part_empty : partB [] = true := part_mk _ line_nil (by simp) (by rw [clean_cz]; rfl)
/-- What is read has parts that are parts. -/
theorem text_parse (l : Bs) (q : P4) (h : parseR l = (0, q)) : textE q.1 q.2.1 q.2.2.1 q.2.2.2 = 0 := by
  rw [parseR_body] at h
  cases hl : lineB l
  · rw [hl] at h; cases h
  rw [hl, if_pos rfl] at h
  have hlc : lineB (cleanL l) = true := by rw [line_clean, hl]
  generalize cleanL l = t at *
  have key : ∀ p t2, lineB p = true → p = cleanL p → lineB t2 = true → restR p t2 = (0, q) → textE q.1 q.2.1 q.2.2.1 q.2.2.2 = 0 := by
    intro p t2 lp cp lt hr
    unfold restR at hr
    by_cases hb : badP p t2
    · rw [if_pos hb] at hr; cases hr
    rw [if_neg hb] at hr
    by_cases hf : (fieldsP t2).1 = []
    · rw [if_pos hf] at hr; cases hr
    rw [if_neg hf] at hr
    cases hr
    unfold badP at hb
    simp only [not_or, Bool.not_eq_true] at hb
    obtain ⟨b1, b2, b3⟩ := hb
    have pp : partB p = true := part_mk _ lp (by rw [List.any_eq_false] at b2; intro b hb; simpa using b2 b hb) cp
    unfold textE
    rw [if_neg hf]
    have fin : partB (fieldsP t2).1 = true ∧ partB (fieldsP t2).2.1 = true ∧ partB (fieldsP t2).2.2 = true := by
      rcases split_three t2 (by omega) with ⟨a, hsp⟩ | ⟨a, b, hsp⟩ | ⟨a, b, c, hsp⟩
      · rw [fields1 t2 a hsp]
        exact ⟨part_field t2 a lt b3 (by rw [hsp]; simp), part_empty, part_empty⟩
      · rw [fields2 t2 a b hsp]
        exact ⟨part_field t2 a lt b3 (by rw [hsp]; simp), part_field t2 b lt b3 (by rw [hsp]; simp), part_empty⟩
      · rw [fields3 t2 a b c hsp]
        exact ⟨part_field t2 a lt b3 (by rw [hsp]; simp), part_field t2 c lt b3 (by rw [hsp]; simp), part_field t2 b lt b3 (by rw [hsp]; simp)⟩
    simp only
    rw [fin.1, fin.2.1, fin.2.2, pp]; rfl
  by_cases hb : ∃ r, t = 123 :: r
  · obtain ⟨r, rfl⟩ := hb
    rcases first_split 125 r with hX | ⟨a, r, rfl, ha, _⟩
    · rw [body_open r hX] at h; cases h
    · rw [body_brace a r ha] at h
      have e : 123 :: (a ++ 125 :: r) = [] ++ 123 :: (a ++ 125 :: r) := rfl
      rw [e, line_at 123 (by decide), line_at 125 (by decide)] at hlc
      simp only [Bool.and_eq_true] at hlc
      exact key (cleanL a) r (by rw [line_clean]; exact hlc.2.1) (clean_idem a).symm hlc.2.2 h
  · rw [body_bare t (fun r q => hb ⟨r, q⟩)] at h
    exact key [] t line_nil (by rw [clean_cz]; rfl) hlc h
/-- What is not read is nobody. -/
theorem parse_zero (l : Bs) (h : (parseR l).1 ≠ 0) : (parseR l).2 = zero4 := by
  have key : ∀ p t, (restR p t).1 ≠ 0 → (restR p t).2 = zero4 := by
    intro p t h
    unfold restR at h ⊢
    by_cases hb : badP p t
    · rw [if_pos hb]
    rw [if_neg hb] at h ⊢
    by_cases hf : (fieldsP t).1 = []
    · rw [if_pos hf]
    · rw [if_neg hf] at h; exact absurd rfl h
  rw [parseR_body] at h ⊢
  cases hl : lineB l
  · rfl
  rw [hl, if_pos rfl] at h
  rw [if_pos rfl]
  unfold bodyR at h ⊢
  cases hr : restP (cleanL l) with
  | none => rfl
  | some pt => rw [hr] at h; exact key _ _ h
end Go.Proofs.YteflhlbgbgamnaaGreatDoor

/- Plain words on lines: trimming, lines that are joined and parted, valid texts line by line. No condition. -/
set_option linter.all false
namespace Go.Proofs.YteflhlbgbgamnaaGreatDoor
open Go.RowKit

def noEnd (l : Bs) : Prop := l.head? ≠ some 32 ∧ l.getLast? ≠ some 32
theorem drop_ind (l : Bs) : l.drop (indentL l) = l.dropWhile (· == 32) := by
  induction l with
  | nil => rfl
  | cons b l ih =>
    unfold indentL at ih ⊢
    rw [List.takeWhile_cons, List.dropWhile_cons]
    split
    · simpa using ih
    · rfl
theorem dw_parts : ∀ l : Bs, ∃ n, l = spaces n ++ l.dropWhile (· == 32) ∧ (l.dropWhile (· == 32)).head? ≠ some 32
  | [] => ⟨0, by simp [spaces]⟩
  | b :: l => by
    obtain ⟨n, h1, h2⟩ := dw_parts l
    rw [List.dropWhile_cons]
    by_cases hb : b = 32
    · subst hb
      rw [if_pos (by decide)]
      refine ⟨n + 1, ?_, h2⟩
      conv => lhs; rw [h1]
      simp [spaces, List.replicate_succ]
    · rw [if_neg (by simpa using hb)]
      exact ⟨0, by simp [spaces], by simpa using hb⟩
theorem trim_parts (l : Bs) : ∃ n m, l = spaces n ++ trimL l ++ spaces m ∧ noEnd (trimL l) := by
  obtain ⟨n, h1, h2⟩ := dw_parts l
  unfold trimL
  rw [drop_ind]
  generalize l.dropWhile (· == 32) = t at *
  obtain ⟨m, h3, h4⟩ := dw_parts t.reverse
  have e : t = trimR t ++ spaces m := by
    have := congrArg List.reverse h3
    rw [List.reverse_reverse, List.reverse_append] at this
    have q : (spaces m).reverse = spaces m := by simp [spaces]
    rw [q] at this
    exact this
  refine ⟨n, m, ?_, ?_, ?_⟩
  · rw [List.append_assoc, ← e]; exact h1
  · intro q
    apply h2
    rw [e]
    cases hq : trimR t with
    | nil => rw [hq] at q; cases q
    | cons b r => rw [hq] at q; simpa using q
  · unfold trimR
    rw [List.getLast?_reverse]; exact h4
theorem trim_fix (l : Bs) (h : noEnd l) : trimL l = l := by
  unfold trimL
  rw [drop_ind]
  have e : l.dropWhile (· == 32) = l := by
    cases l with
    | nil => rfl
    | cons b l =>
      rw [List.dropWhile_cons, if_neg]
      have := h.1
      simpa using this
  rw [e]
  unfold trimR
  have e2 : l.reverse.dropWhile (· == 32) = l.reverse := by
    have h2 := h.2
    rw [← List.head?_reverse] at h2
    cases hr : l.reverse with
    | nil => rfl
    | cons b r =>
      rw [hr] at h2
      rw [List.dropWhile_cons, if_neg]
      simpa using h2
  rw [e2, List.reverse_reverse]
theorem trim_no (l : Bs) : noEnd (trimL l) := by obtain ⟨_, _, _, h⟩ := trim_parts l; exact h
theorem trim_idem (l : Bs) : trimL (trimL l) = trimL l := trim_fix _ (trim_no l)
theorem trim_mem (l : Bs) (b : UInt8) (h : b ∈ trimL l) : b ∈ l := by
  obtain ⟨n, m, e, _⟩ := trim_parts l
  rw [e]; simp [h]
theorem trim_line (l : Bs) : lineB (trimL l) = lineB l := by
  obtain ⟨n, m, e, _⟩ := trim_parts l
  conv => rhs; rw [e]
  rw [line_end, line_spaces]
theorem trim_sp (l : Bs) : trimL (32 :: l) = trimL l := by
  unfold trimL
  rw [drop_ind, drop_ind]; rfl
theorem trim_nil : trimL [] = [] := rfl
theorem trim_fix_sp (l : Bs) (h : noEnd l) : trimL (l ++ [32]) = l := by
  by_cases h0 : l = []
  · subst h0; rfl
  · unfold trimL
    rw [drop_ind]
    have e : (l ++ [32]).dropWhile (· == 32) = l ++ [32] := by
      cases l with
      | nil => exact absurd rfl h0
      | cons b l =>
        rw [List.cons_append, List.dropWhile_cons, if_neg]
        have := h.1
        simpa using this
    rw [e]
    unfold trimR
    rw [List.reverse_append]
    have e2 : ([32].reverse ++ l.reverse).dropWhile (· == (32 : UInt8)) = l.reverse := by
      show (32 :: l.reverse).dropWhile _ = _
      rw [List.dropWhile_cons, if_pos (by decide)]
      have h2 := h.2
      rw [← List.head?_reverse] at h2
      cases hr : l.reverse with
      | nil => rfl
      | cons b r =>
        rw [hr] at h2
        rw [List.dropWhile_cons, if_neg]
        simpa using h2
    rw [e2, List.reverse_reverse]
theorem cz_head (l : Bs) : (cz 0 l).head? ≠ some 32 := by
  induction l with
  | nil => simp [cz_nil]
  | cons b l ih =>
    by_cases hb : b = 32
    · subst hb; rw [cz_sp]; exact ih
    · rw [cz_ch _ _ _ hb]; simpa using hb
theorem cz_last (l : Bs) : ∀ k, (cz k l).getLast? ≠ some 32 := by
  induction l with
  | nil => intro k; simp [cz_nil]
  | cons b l ih =>
    intro k
    by_cases hb : b = 32
    · subst hb; rw [cz_sp]; exact ih _
    · rw [cz_ch _ _ _ hb, List.getLast?_append]
      cases hl : cz 1 l with
      | nil => simpa using hb
      | cons c r =>
        have := ih 1
        rw [hl] at this
        rw [List.getLast?_cons_cons]
        rw [List.getLast?_eq_some_getLast (by simp)] at this ⊢
        simpa using this
theorem clean_noEnd (x : Bs) (h : cleanL x = x) : noEnd x := by
  rw [clean_cz] at h
  rw [← h]
  exact ⟨cz_head x, cz_last x 0⟩
/-- A line feed parts a text. -/
theorem nm_cases (b : UInt8) (h : nmB b = true) : 45 ≤ b.toNat ∧ b.toNat ≤ 122 ∧ b.toNat ≠ 61 ∧ b.toNat ≠ 64 := by
  unfold nmB letB digB at h
  simp only [Bool.or_eq_true, Bool.and_eq_true, decide_eq_true_eq, beq_iff_eq] at h
  rcases h with ((((h | h) | rfl) | rfl) | rfl) | rfl
  · omega
  · omega
  all_goals decide
theorem name_all (l : Bs) (h : nameB l = true) : ∀ b ∈ l, 45 ≤ b.toNat ∧ b.toNat ≤ 122 ∧ b.toNat ≠ 61 ∧ b.toNat ≠ 64 := by
  unfold nameB at h
  rw [Bool.and_eq_true] at h
  intro b hb
  exact nm_cases b (List.all_eq_true.1 h.2 b hb)
theorem name_ne (l : Bs) (h : nameB l = true) : l ≠ [] := by
  rintro rfl
  unfold nameB at h
  simp at h
theorem name_len (l : Bs) (h : nameB l = true) : l.length ≤ 60 := by
  unfold nameB at h
  rw [Bool.and_eq_true, Bool.and_eq_true] at h
  simpa using h.1.1
theorem name_vis (l : Bs) (h : nameB l = true) : ∀ b ∈ l, 32 ≤ (b.toNat : Int) ∧ (b.toNat : Int) < 127 := fun b hb => by have := name_all l h b hb; omega
theorem name_line (l : Bs) (h : nameB l = true) : lineB l = true := line_asc l (name_vis l h)
theorem name_not (l : Bs) (h : nameB l = true) (c : UInt8) (hc : c.toNat < 45 ∨ 122 < c.toNat ∨ c.toNat = 61 ∨ c.toNat = 64) : c ∉ l := fun q => by have := name_all l h c q; omega
theorem name_noEnd (l : Bs) (h : nameB l = true) : noEnd l := by
  have := name_not l h 32 (by decide)
  exact ⟨fun q => this (List.mem_of_mem_head? q), fun q => this (List.mem_of_mem_getLast? q)⟩
end Go.Proofs.YteflhlbgbgamnaaGreatDoor
