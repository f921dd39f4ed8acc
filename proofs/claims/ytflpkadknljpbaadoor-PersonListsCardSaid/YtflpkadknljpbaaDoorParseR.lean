/- What person.Parse answers, and that it does. Conditions: the length of the text. -/
import Derived.Test.YtflpkadknljpbaaDoorParse
import Derived.Test.YtflpkadknljpbaaDoorParse3
set_option linter.all false
namespace Go.Proofs.YtflpkadknljpbaaDoor
open Go.RowKit

abbrev P4 := Bs × Bs × Bs × Bs
abbrev p4V (q : P4) : Value := persV q.1 q.2.1 q.2.2.1 q.2.2.2
def zero4 : P4 := ([], [], [], [])
/-- The fields of the rest: family, given, suffix. -/
def fieldsP (rest : Bs) : Bs × Bs × Bs :=
  match splitC 44 rest with
  | [a] => (cleanL a, [], [])
  | [a, b] => (cleanL a, cleanL b, [])
  | [a, b, c] => (cleanL a, cleanL c, cleanL b)
  | _ => ([], [], [])
/-- The particle and the rest; none: a brace is not closed. -/
def restP (t : Bs) : Option (Bs × Bs) :=
  match t with
  | [] => some ([], [])
  | x :: r => if x = 123 then (if before 125 r < r.length then some (cleanL (r.take (before 125 r)), r.drop (before 125 r + 1)) else none) else some ([], x :: r)
def badP (p t : Bs) : Prop := 2 < t.count 44 ∨ p.any (inSet setC) = true ∨ t.any (inSet setN) = true
instance (p t : Bs) : Decidable (badP p t) := by unfold badP; infer_instance
def restR (p t : Bs) : Int × P4 := if badP p t then (5, zero4) else if (fieldsP t).1 = [] then (8, zero4) else (0, ((fieldsP t).1, (fieldsP t).2.1, p, (fieldsP t).2.2))
/-- The error and the person that a text denotes. -/
def parseR (l : Bs) : Int × P4 :=
  if lineB l = true then (match restP (cleanL l) with | none => (5, zero4) | some (p, t) => restR p t) else (17, zero4)

theorem sum_mem_le (xs : List Bs) (x : Bs) (h : x ∈ xs) : x.length + 1 ≤ (xs.map (fun x => x.length + 1)).sum := by
  induction xs with
  | nil => cases h
  | cons a r ih =>
    simp only [List.map_cons, List.sum_cons]
    rcases List.mem_cons.1 h with rfl | h
    · omega
    · have := ih h; omega
theorem split_mem_le (c : UInt8) (l x : Bs) (h : x ∈ splitC c l) : x.length ≤ l.length := by
  have := sum_mem_le _ x h; rw [splitC_sum] at this; omega
theorem split_three (t : Bs) (h : t.count 44 ≤ 2) : (∃ a, splitC 44 t = [a]) ∨ (∃ a b, splitC 44 t = [a, b]) ∨ ∃ a b c, splitC 44 t = [a, b, c] := by
  have hl := splitC_length 44 t
  match hs : splitC 44 t with
  | [] => rw [hs] at hl; simp at hl
  | [a] => exact .inl ⟨a, rfl⟩
  | [a, b] => exact .inr (.inl ⟨a, b, rfl⟩)
  | [a, b, c] => exact .inr (.inr ⟨a, b, c, rfl⟩)
  | a :: b :: c :: d :: r => rw [hs] at hl; simp at hl; omega
def ParsePost (l : Bs) (w : World) (e : Ending) (w' : World) : Prop := e = .returned (.tuple #[p4V (parseR l).2, .int .i64 (parseR l).1]) ∧ Kept w w'
theorem ParsePost.mk {l : Bs} {w : World} {e : Ending} {w' : World} {n : Int} {q : P4} (h : parseR l = (n, q)) (he : e = .returned (.tuple #[p4V q, .int .i64 n])) (hk : Kept w w') : ParsePost l w e w' := by
  unfold ParsePost; rw [h]; exact ⟨he, hk⟩

set_option maxRecDepth 100000 in
theorem parse_noline (l : Bs) (w : World) (hs : l.length ≤ 1000000) (hl : lineB l = false) :
    Calls Tryd.prog 13 #[.string (bs l)] w fun e w' => e = .returned (.tuple #[persV [] [] [] [], .int .i64 17]) ∧ Kept w w' := by
  go_enter Tryd.func13, Tryd.ntmps13
  go_wp2_with fail
  refine (line_any l _ (by omega)).mono ?_
  rintro e w1 ⟨rfl, n, rfl⟩
  rw [hl]
  go_wp2_with fail
  have hkk := (kept_alloc w (.cells #[.string (bs []), .string (bs []), .string (bs []), .string (bs [])] 24)).trans (kept_drewN _ n)
  exact bodyPost_ret (v := .tuple #[persV [] [] [] [], .int .i64 17]) (by simp [results, Tryd.results13, go_sem]) rfl ⟨rfl, kept_set (kept_set (kept_set (kept_set (hkk) _ _ _ (Nat.le_refl _)) _ _ _ (Nat.le_refl _)) _ _ _ (Nat.le_refl _)) _ _ _ (Nat.le_refl _)⟩

theorem fields1 (t a : Bs) (h : splitC 44 t = [a]) : fieldsP t = (cleanL a, [], []) := by unfold fieldsP; rw [h]
theorem fields2 (t a b : Bs) (h : splitC 44 t = [a, b]) : fieldsP t = (cleanL a, cleanL b, []) := by unfold fieldsP; rw [h]
theorem fields3 (t a b c : Bs) (h : splitC 44 t = [a, b, c]) : fieldsP t = (cleanL a, cleanL c, cleanL b) := by unfold fieldsP; rw [h]

theorem parse_any (l : Bs) (w : World) (hg : Gnd w) (hs : l.length ≤ 1000000) :
    Calls Tryd.prog 13 #[.string (bs l)] w (ParsePost l w) := by
  cases hl : lineB l
  · exact (parse_noline l w hs hl).mono fun e w' ⟨he, hk⟩ => ParsePost.mk (q := zero4) (by unfold parseR; rw [hl]; rfl) he hk
  have hcl := cleanL_le l
  have e0 : parseR l = (match restP (cleanL l) with | none => (5, zero4) | some (p, t) => restR p t) := by unfold parseR; rw [hl]; rfl
  by_cases hb : ∃ r, cleanL l = 123 :: r
  · obtain ⟨r, hr⟩ := hb
    have hrl : r.length ≤ 1000001 := by rw [hr] at hcl; simp at hcl; omega
    by_cases hbr : before 125 r < r.length
    · have e1 : parseR l = restR (cleanL (r.take (before 125 r))) (r.drop (before 125 r + 1)) := by
        rw [e0, hr]; simp only [restP, if_true]; rw [if_pos hbr]
      have hpl : (cleanL (r.take (before 125 r))).length ≤ 1000010 := by have := cleanL_le (r.take (before 125 r)); simp at this; omega
      have htl : (r.drop (before 125 r + 1)).length ≤ 1000001 := by simp; omega
      obtain ⟨p, hp⟩ : ∃ p, cleanL (r.take (before 125 r)) = p := ⟨_, rfl⟩
      obtain ⟨t, ht⟩ : ∃ t, r.drop (before 125 r + 1) = t := ⟨_, rfl⟩
      rw [hp, ht] at e1
      rw [hp] at hpl
      rw [ht] at htl
      by_cases hc : 2 < t.count 44
      · exact (parse_count_b l w hg hs hl r p t hr hrl hbr hp ht hpl htl hc).mono fun e w' ⟨he, hk⟩ => ParsePost.mk (q := zero4) (by rw [e1]; unfold restR; rw [if_pos (.inl hc)]) he hk
      cases ha1 : p.any (inSet setC)
      case true => exact (parse_any1_b l w hg hs hl r p t hr hrl hbr hp ht hpl htl (by omega) ha1).mono fun e w' ⟨he, hk⟩ => ParsePost.mk (q := zero4) (by rw [e1]; unfold restR; rw [if_pos (.inr (.inl ha1))]) he hk
      cases ha2 : t.any (inSet setN)
      case true => exact (parse_any2_b l w hg hs hl r p t hr hrl hbr hp ht hpl htl (by omega) ha1 ha2).mono fun e w' ⟨he, hk⟩ => ParsePost.mk (q := zero4) (by rw [e1]; unfold restR; rw [if_pos (.inr (.inr ha2))]) he hk
      have hnb : ¬ badP p t := by unfold badP; rw [ha1, ha2]; simp; omega
      have e2 : parseR l = if (fieldsP t).1 = [] then (8, zero4) else (0, ((fieldsP t).1, (fieldsP t).2.1, p, (fieldsP t).2.2)) := by rw [e1]; unfold restR; rw [if_neg hnb]
      rcases split_three t (by omega) with ⟨a, hsp⟩ | ⟨a, b, hsp⟩ | ⟨a, b, c, hsp⟩
      · have la := split_mem_le 44 t a (by rw [hsp]; simp)
        rw [fields1 t a hsp] at e2
        by_cases hf : cleanL a = []
        · exact (parse_none1_b l w hg hs hl r p t hr hrl hbr hp ht hpl htl (by omega) ha1 ha2 a hsp (by omega) hf).mono fun e w' ⟨he, hk⟩ => ParsePost.mk (q := zero4) (by rw [e2, if_pos hf]) he hk
        · exact (parse_ok1_b l w hg hs hl r p t hr hrl hbr hp ht hpl htl (by omega) ha1 ha2 a hsp (by omega) _ rfl hf (by simpa using hf)).mono fun e w' ⟨he, hk⟩ => ParsePost.mk (by rw [e2, if_neg hf]) he hk
      · have la := split_mem_le 44 t a (by rw [hsp]; simp)
        have lb := split_mem_le 44 t b (by rw [hsp]; simp)
        rw [fields2 t a b hsp] at e2
        by_cases hf : cleanL a = []
        · exact (parse_none2_b l w hg hs hl r p t hr hrl hbr hp ht hpl htl (by omega) ha1 ha2 a b hsp (by omega) (by omega) hf _ rfl).mono fun e w' ⟨he, hk⟩ => ParsePost.mk (q := zero4) (by rw [e2, if_pos hf]) he hk
        · exact (parse_ok2_b l w hg hs hl r p t hr hrl hbr hp ht hpl htl (by omega) ha1 ha2 a b hsp (by omega) (by omega) _ rfl _ rfl hf (by simpa using hf)).mono fun e w' ⟨he, hk⟩ => ParsePost.mk (by rw [e2, if_neg hf]) he hk
      · have la := split_mem_le 44 t a (by rw [hsp]; simp)
        have lb := split_mem_le 44 t b (by rw [hsp]; simp)
        have lc := split_mem_le 44 t c (by rw [hsp]; simp)
        rw [fields3 t a b c hsp] at e2
        by_cases hf : cleanL a = []
        · exact (parse_none3_b l w hg hs hl r p t hr hrl hbr hp ht hpl htl (by omega) ha1 ha2 a b c hsp (by omega) (by omega) (by omega) hf _ rfl _ rfl).mono fun e w' ⟨he, hk⟩ => ParsePost.mk (q := zero4) (by rw [e2, if_pos hf]) he hk
        · exact (parse_ok3_b l w hg hs hl r p t hr hrl hbr hp ht hpl htl (by omega) ha1 ha2 a b c hsp (by omega) (by omega) (by omega) _ rfl _ rfl _ rfl hf (by simpa using hf)).mono fun e w' ⟨he, hk⟩ => ParsePost.mk (by rw [e2, if_neg hf]) he hk
    · exact (parse_open l w hg hs hl r [] [] hr hrl hbr).mono fun e w' ⟨he, hk⟩ => ParsePost.mk (q := zero4) (by rw [e0, hr]; simp only [restP, if_true]; rw [if_neg hbr]) he hk
  · obtain ⟨t, ht⟩ : ∃ t, cleanL l = t := ⟨_, rfl⟩
    have hnb : ∀ r, t ≠ 123 :: r := fun r q => hb ⟨r, by rw [ht, q]⟩
    have e1 : parseR l = restR [] t := by
      rw [e0, ht]
      cases t with
      | nil => rfl
      | cons x r => simp only [restP]; rw [if_neg (fun q => hnb r (by rw [q]))]
    have htl : t.length ≤ 1000001 := by rw [ht] at hcl; omega
    have ha1 : ([] : Bs).any (inSet setC) = false := rfl
    by_cases hc : 2 < t.count 44
    · exact (parse_count_n l w hg hs hl t ht hnb htl hc).mono fun e w' ⟨he, hk⟩ => ParsePost.mk (q := zero4) (by rw [e1]; unfold restR; rw [if_pos (.inl hc)]) he hk
    cases ha2 : t.any (inSet setN)
    case true => exact (parse_any2_n l w hg hs hl t ht hnb htl (by omega) ha1 ha2).mono fun e w' ⟨he, hk⟩ => ParsePost.mk (q := zero4) (by rw [e1]; unfold restR; rw [if_pos (.inr (.inr ha2))]) he hk
    have hnb' : ¬ badP [] t := by unfold badP; rw [ha1, ha2]; simp; omega
    have e2 : parseR l = if (fieldsP t).1 = [] then (8, zero4) else (0, ((fieldsP t).1, (fieldsP t).2.1, [], (fieldsP t).2.2)) := by rw [e1]; unfold restR; rw [if_neg hnb']
    rcases split_three t (by omega) with ⟨a, hsp⟩ | ⟨a, b, hsp⟩ | ⟨a, b, c, hsp⟩
    · have la := split_mem_le 44 t a (by rw [hsp]; simp)
      rw [fields1 t a hsp] at e2
      by_cases hf : cleanL a = []
      · exact (parse_none1_n l w hg hs hl t ht hnb htl (by omega) ha1 ha2 a hsp (by omega) hf).mono fun e w' ⟨he, hk⟩ => ParsePost.mk (q := zero4) (by rw [e2, if_pos hf]) he hk
      · exact (parse_ok1_n l w hg hs hl t ht hnb htl (by omega) ha1 ha2 a hsp (by omega) _ rfl hf (by simpa using hf)).mono fun e w' ⟨he, hk⟩ => ParsePost.mk (by rw [e2, if_neg hf]) he hk
    · have la := split_mem_le 44 t a (by rw [hsp]; simp)
      have lb := split_mem_le 44 t b (by rw [hsp]; simp)
      rw [fields2 t a b hsp] at e2
      by_cases hf : cleanL a = []
      · exact (parse_none2_n l w hg hs hl t ht hnb htl (by omega) ha1 ha2 a b hsp (by omega) (by omega) hf _ rfl).mono fun e w' ⟨he, hk⟩ => ParsePost.mk (q := zero4) (by rw [e2, if_pos hf]) he hk
      · exact (parse_ok2_n l w hg hs hl t ht hnb htl (by omega) ha1 ha2 a b hsp (by omega) (by omega) _ rfl _ rfl hf (by simpa using hf)).mono fun e w' ⟨he, hk⟩ => ParsePost.mk (by rw [e2, if_neg hf]) he hk
    · have la := split_mem_le 44 t a (by rw [hsp]; simp)
      have lb := split_mem_le 44 t b (by rw [hsp]; simp)
      have lc := split_mem_le 44 t c (by rw [hsp]; simp)
      rw [fields3 t a b c hsp] at e2
      by_cases hf : cleanL a = []
      · exact (parse_none3_n l w hg hs hl t ht hnb htl (by omega) ha1 ha2 a b c hsp (by omega) (by omega) (by omega) hf _ rfl _ rfl).mono fun e w' ⟨he, hk⟩ => ParsePost.mk (q := zero4) (by rw [e2, if_pos hf]) he hk
      · exact (parse_ok3_n l w hg hs hl t ht hnb htl (by omega) ha1 ha2 a b c hsp (by omega) (by omega) (by omega) _ rfl _ rfl _ rfl hf (by simpa using hf)).mono fun e w' ⟨he, hk⟩ => ParsePost.mk (by rw [e2, if_neg hf]) he hk
end Go.Proofs.YtflpkadknljpbaaDoor
