/- Inverted of package person. Conditions: lengths. -/
import Derived.Test.YtflpkadknljpbaaDoorInits
set_option linter.all false
namespace Go.Proofs.YtflpkadknljpbaaDoor
open Go.RowKit

theorem encL_len (c : Int) : (encL c).length ≤ 4 := by have := encode_size_le c; exact this
theorem ini_len : ∀ (l : Bs) (bg iw sm : Bool), (ini l bg iw sm).length ≤ 6 * l.length
  | [], _, _, _ => by simp [ini]
  | b :: r, bg, iw, sm => by
    rw [ini_cons]
    have h1 := ini_len r true false sm
    have h2 := ini_len r true iw sm
    have h3 := ini_len r false true true
    have h4 := ini_len r false iw sm
    have hp : (pieceI (b :: r)).length ≤ 5 := by unfold pieceI; have := encL_len (dec (bs (b :: r)) 0).1; simp; omega
    have hl : (if iw then [45] else if sm then [32] else ([] : Bs)).length ≤ 1 := by cases iw <;> cases sm <;> simp
    simp only [List.length_cons]
    split
    · omega
    split
    · omega
    split
    · simp only [List.length_append]; omega
    · omega
theorem initialsL_len (g : Bs) : (initialsL g).length ≤ 6 * g.length := by rw [initials_ini]; exact ini_len g _ _ _
def givenI (g : Bs) (i : Bool) : Bs := if i then initialsL g else g
def invL (f g p s : Bs) (i : Bool) : Bs := joinedL [p, f] ++ (if givenI g i = [] then [] else [44, 32] ++ givenI g i) ++ (if s = [] then [] else [44, 32] ++ s)

set_option maxRecDepth 100000 in
set_option maxHeartbeats 3200000 in
theorem inverted_any (f g p s : Bs) (i : Bool) (w : World) (hs : f.length + g.length + p.length + s.length ≤ 1000000) :
    Calls Tryd.prog 24 #[persV f g p s, .bool i] w fun e w' => e = .returned (.string (bs (invL f g p s i))) ∧ Kept w w' := by
  have hbu : bulk [p, f] ≤ 1000002 := by simp [bulk]; omega
  have hsh := joinedL_le [p, f]
  have hin := initialsL_len g
  have HL : Hid (invL f g p s i = joinedL [p, f] ++ (if givenI g i = [] then [] else [44, 32] ++ givenI g i) ++ (if s = [] then [] else [44, 32] ++ s)) := rfl
  have hgl : (givenI g i).length ≤ 6000000 := by unfold givenI; split <;> omega
  have HS := Lib.hid (fun w => short_any f g p s w (by omega))
  have HI := Lib.hid (fun w => initials_any f g p s w (by omega))
  have HGI : Hid (givenI g i = if i then initialsL g else g) := rfl
  generalize joinedL [p, f] = sh at *
  generalize initialsL g = il at *
  generalize givenI g i = gv at *
  cases i
  · obtain rfl : gv = g := HGI.out
    clear HGI
    by_cases hg : gv = [] <;> by_cases hs' : s = []
    all_goals
      first | subst hg | (have hge : gv.isEmpty = false := by simpa using hg)
      first | subst hs' | (have hse : s.isEmpty = false := by simpa using hs')
      try simp only [List.length_nil, Nat.add_zero, Nat.zero_add] at hs
      go_enter Tryd.func24, Tryd.ntmps24
      go_wp2_with fail
      refine (HS.out _).mono ?_
      rintro e w1 ⟨rfl, hk1⟩
      obtain ⟨kc, kf⟩ := keep_cell hk1
      have hz : w.heap.size < w1.heap.size := by have := hk1.size; simp at this; omega
      have HK := Lib.hid ((kept_alloc w _).trans hk1)
      clear hk1
      go_wp2_with fail
      go_ret
      exact ⟨ret_bs (by rw [HL.out]; simp [*]), HK.out⟩
  · obtain rfl : gv = il := HGI.out
    clear HGI
    by_cases hg : gv = [] <;> by_cases hs' : s = []
    all_goals
      first | subst hg | (have hge : gv.isEmpty = false := by simpa using hg)
      first | subst hs' | (have hse : s.isEmpty = false := by simpa using hs')
      try simp only [List.length_nil, Nat.add_zero, Nat.zero_add] at hs
      go_enter Tryd.func24, Tryd.ntmps24
      go_wp2_with fail
      refine (HI.out _).mono ?_
      rintro e w1 ⟨rfl, hk1⟩
      obtain ⟨kc, kf⟩ := keep_cell hk1
      have hz : w.heap.size < w1.heap.size := by have := hk1.size; simp at this; omega
      have HK1 := Lib.hid hk1
      clear hk1
      go_wp2_with fail
      refine (HS.out _).mono ?_
      rintro e w2 ⟨rfl, hk2⟩
      have HK2 := Lib.hid (HK1.out.trans hk2)
      clear kc kf hk2 hz
      obtain ⟨kc, kf⟩ := keep_cell HK2.out
      have hz : w.heap.size < w2.heap.size := by have := HK2.out.size; simp at this; omega
      have HK := Lib.hid ((kept_alloc w _).trans HK2.out)
      go_wp2_with fail
      go_ret
      exact ⟨ret_bs (by rw [HL.out]; simp [*]), HK.out⟩
end Go.Proofs.YtflpkadknljpbaaDoor
