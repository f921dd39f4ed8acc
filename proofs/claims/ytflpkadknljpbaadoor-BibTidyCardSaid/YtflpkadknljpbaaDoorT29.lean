/- Inverted of package person. Conditions: lengths. -/
import Derived.Test.YtflpkadknljpbaaDoorT28
import Derived.Test.YtflpkadknljpbaaDoorT20
import Derived.Test.YtflpkadknljpbaaDoorT17

set_option linter.all false
namespace Go.Proofs.YtflpkadknljpbaaDoor
open Go.RowKit

theorem encL_len (c : Int) : (encL c).length ≤ 4 := by have := encode_size_le c; exact this
theorem ini_len : ∀ (l : Bs) (bg iw sm : Bool), (ini l bg iw sm).length ≤ 6 * l.length
  | [], _, _, _ => by simp [ini]
  | b :: r, bg, iw, sm => by
    rw [ini_cons]
    have h1 := ini_len r true false sm
    have h2 := ini_len r true iw sm
    have h3 := ini_len r false true true
    have h4 := ini_len r false iw sm
    have hp : (pieceI (b :: r)).length ≤ 5 := by unfold pieceI; have := encL_len (dec (bs (b :: r)) 0).1; simp; omega
    have hl : (if iw then [45] else if sm then [32] else ([] : Bs)).length ≤ 1 := by cases iw <;> cases sm <;> simp
    simp only [List.length_cons]
    split
    · omega
    split
    · omega
    split
    · simp only [List.length_append]; omega
    · omega
theorem initialsL_len (g : Bs) : (initialsL g).length ≤ 6 * g.length := by rw [initials_ini]; exact ini_len g _ _ _
def givenI (g : Bs) (i : Bool) : Bs := if i then initialsL g else g
def invL (f g p s : Bs) (i : Bool) : Bs := joinedL [p, f] ++ (if givenI g i = [] then [] else [44, 32] ++ givenI g i) ++ (if s = [] then [] else [44, 32] ++ s)

set_option maxRecDepth 100000 in
set_option maxHeartbeats 3200000 in
theorem inverted_any (f g p s : Bs) (i : Bool) (w : World) (hs : f.length + g.length + p.length + s.length ≤ 1000000) :
    Calls Tryd.prog 24 #[persV f g p s, .bool i] w fun e w' => e = .returned (.string (bs (invL f g p s i))) ∧ Kept w w' := by
  have hbu : bulk [p, f] ≤ 1000002 := by simp [bulk]; omega
  have hsh := joinedL_le [p, f]
  have hin := initialsL_len g
  have HL : Hid (invL f g p s i = joinedL [p, f] ++ (if givenI g i = [] then [] else [44, 32] ++ givenI g i) ++ (if s = [] then [] else [44, 32] ++ s)) := rfl
  have hgl : (givenI g i).length ≤ 6000000 := by unfold givenI; split <;> omega
  have HS := Lib.hid (fun w => short_any f g p s w (by omega))
  have HI := Lib.hid (fun w => initials_any f g p s w (by omega))
  have HGI : Hid (givenI g i = if i then initialsL g else g) := rfl
  generalize joinedL [p, f] = sh at *
  generalize initialsL g = il at *
  generalize givenI g i = gv at *
  cases i
  · obtain rfl : gv = g := HGI.out
    clear HGI
    by_cases hg : gv = [] <;> by_cases hs' : s = []
    all_goals
      first | subst hg | (have hge : gv.isEmpty = false := by simpa using hg)
      first | subst hs' | (have hse : s.isEmpty = false := by simpa using hs')
      try simp only [List.length_nil, Nat.add_zero, Nat.zero_add] at hs
      go_enter Tryd.func24, Tryd.ntmps24
      go_wp2_with fail
      refine (HS.out _).mono ?_
      rintro e w1 ⟨rfl, hk1⟩
      obtain ⟨kc, kf⟩ := keep_cell hk1
      have hz : w.heap.size < w1.heap.size := by have := hk1.size; simp at this; omega
      have HK := Lib.hid ((kept_alloc w _).trans hk1)
      clear hk1
      go_wp2_with fail
      go_ret
      exact ⟨ret_bs (by rw [HL.out]; simp [*]), HK.out⟩
  · obtain rfl : gv = il := HGI.out
    clear HGI
    by_cases hg : gv = [] <;> by_cases hs' : s = []
    all_goals
      first | subst hg | (have hge : gv.isEmpty = false := by simpa using hg)
      first | subst hs' | (have hse : s.isEmpty = false := by simpa using hs')
      try simp only [List.length_nil, Nat.add_zero, Nat.zero_add] at hs
      go_enter Tryd.func24, Tryd.ntmps24
      go_wp2_with fail
      refine (HI.out _).mono ?_
      rintro e w1 ⟨rfl, hk1⟩
      obtain ⟨kc, kf⟩ := keep_cell hk1
      have hz : w.heap.size < w1.heap.size := by have := hk1.size; simp at this; omega
      have HK1 := Lib.hid hk1
      clear hk1
      go_wp2_with fail
      refine (HS.out _).mono ?_
      rintro e w2 ⟨rfl, hk2⟩
      have HK2 := Lib.hid (HK1.out.trans hk2)
      clear kc kf hk2 hz
      obtain ⟨kc, kf⟩ := keep_cell HK2.out
      have hz : w.heap.size < w2.heap.size := by have := HK2.out.size; simp at this; omega
      have HK := Lib.hid ((kept_alloc w _).trans HK2.out)
      go_wp2_with fail
      go_ret
      exact ⟨ret_bs (by rw [HL.out]; simp [*]), HK.out⟩
end Go.Proofs.YtflpkadknljpbaaDoor

/- The page's examples of persons: what the program answers to them. No condition. -/
set_option linter.all false
namespace Go.Proofs.YtflpkadknljpbaaDoor
open Go.RowKit

theorem line_ascii : ∀ l : Bs, (∀ b ∈ l, 32 ≤ b.toNat ∧ b.toNat < 127) → lineB l = true
  | [], _ => line_nil
  | b :: l, h => by
    have hb := h b (by simp)
    have := line_at b (by omega) [] l
    rw [List.nil_append] at this
    rw [this, line_nil, line_ascii l (fun x hx => h x (by simp [hx]))]; rfl
def tBerg : Bs := [66, 101, 114, 103]
def tLudwig : Bs := [76, 117, 100, 119, 105, 103]
def tVander : Bs := [118, 97, 110, 32, 100, 101, 114]
def tJr : Bs := [74, 114, 46]
theorem part_ascii (l : Bs) (h : ∀ b ∈ l, 32 ≤ b.toNat ∧ b.toNat < 127) (h2 : l.any (inSet setC) = false) (h3 : l = cleanL l) : partB l = true := by
  unfold partB; rw [line_ascii l h, h2]; simpa using h3
theorem awk_textE : textE tBerg tLudwig tVander tJr = 0 := by
  unfold textE
  rw [if_neg (by decide), part_ascii tBerg (by decide) (by decide) (by decide +kernel), part_ascii tLudwig (by decide) (by decide) (by decide +kernel), part_ascii tVander (by decide) (by decide) (by decide +kernel), part_ascii tJr (by decide) (by decide) (by decide +kernel)]; rfl
theorem awk_textR : textR tBerg tLudwig tVander tJr = [123, 118, 97, 110, 32, 100, 101, 114, 125, 32, 66, 101, 114, 103, 44, 32, 74, 114, 46, 44, 32, 76, 117, 100, 119, 105, 103] := by
  unfold textR; rw [awk_textE, if_pos rfl]; decide
theorem awk_parseR1 : parseR [66, 101, 114, 103, 32, 44, 32, 32, 76, 117, 100, 119, 105, 103] = (0, (tBerg, tLudwig, [], [])) := by
  rw [parseR_body, line_ascii _ (by decide), if_pos rfl]; decide +kernel
theorem awk_parseR2 : parseR [44, 32, 65, 110, 110] = (8, zero4) := by
  rw [parseR_body, line_ascii _ (by decide), if_pos rfl]; decide +kernel
theorem awk_iniL : initialsL [74, 101, 97, 110, 45, 80, 97, 117, 108, 32, 77, 97, 114, 105, 101] = [74, 46, 45, 80, 46, 32, 77, 46] := by decide +kernel
theorem awk_invL : invL tBerg tLudwig tVander tJr false = [118, 97, 110, 32, 100, 101, 114, 32, 66, 101, 114, 103, 44, 32, 76, 117, 100, 119, 105, 103, 44, 32, 74, 114, 46] := by decide +kernel
theorem awk_listL : plistL [([78, 103], [], [], []), ([76, 105], [], [], []), ([87, 117], [], [], [])] [101, 110] 1 false = [78, 103, 32, 97, 110, 100, 32, 111, 116, 104, 101, 114, 115] := by decide +kernel

set_option maxRecDepth 100000 in
theorem berg_any (w : World) : Calls Tryd.prog 43 #[] w fun e w' => e = .returned (persV tBerg tLudwig tVander tJr) ∧ Kept w w' := by
  go_enter Tryd.func43, Tryd.ntmps43
  go_wp2_with fail
  exact bodyPost_ret (v := persV tBerg tLudwig tVander tJr) (by simp [results, Tryd.results43, go_sem, tBerg, tLudwig, tVander, tJr]) rfl ⟨rfl, kept_alloc _ _⟩
theorem awk_text (w : World) (hg : Gnd w) : Calls Tryd.prog 16 #[persV tBerg tLudwig tVander tJr] w fun e w' => e = .returned (.tuple #[.string (bs [123, 118, 97, 110, 32, 100, 101, 114, 125, 32, 66, 101, 114, 103, 44, 32, 74, 114, 46, 44, 32, 76, 117, 100, 119, 105, 103]), .int .i64 0]) ∧ Kept w w' := by
  have h := text_any tBerg tLudwig tVander tJr w hg (by decide)
  rw [awk_textE, awk_textR] at h; exact h
theorem awk_parse1 (w : World) (hg : Gnd w) : Calls Tryd.prog 13 #[.string (bs [66, 101, 114, 103, 32, 44, 32, 32, 76, 117, 100, 119, 105, 103])] w fun e w' => e = .returned (.tuple #[persV [66, 101, 114, 103] [76, 117, 100, 119, 105, 103] [] [], .int .i64 0]) ∧ Kept w w' := by
  have h := parse_any [66, 101, 114, 103, 32, 44, 32, 32, 76, 117, 100, 119, 105, 103] w hg (by decide)
  unfold ParsePost at h
  rw [awk_parseR1] at h; exact h
theorem awk_parse2 (w : World) (hg : Gnd w) : Calls Tryd.prog 13 #[.string (bs [44, 32, 65, 110, 110])] w fun e w' => e = .returned (.tuple #[persV [] [] [] [], .int .i64 8]) ∧ Kept w w' := by
  have h := parse_any [44, 32, 65, 110, 110] w hg (by decide)
  unfold ParsePost at h
  rw [awk_parseR2] at h; exact h
theorem awk_ini (w : World) : Calls Tryd.prog 22 #[persV [] [74, 101, 97, 110, 45, 80, 97, 117, 108, 32, 77, 97, 114, 105, 101] [] []] w fun e w' => e = .returned (.string (bs [74, 46, 45, 80, 46, 32, 77, 46])) ∧ Kept w w' := by
  have h := initials_any [] [74, 101, 97, 110, 45, 80, 97, 117, 108, 32, 77, 97, 114, 105, 101] [] [] w (by decide)
  rw [awk_iniL] at h; exact h
theorem awk_inv (w : World) : Calls Tryd.prog 24 #[persV tBerg tLudwig tVander tJr, .bool false] w fun e w' => e = .returned (.string (bs [118, 97, 110, 32, 100, 101, 114, 32, 66, 101, 114, 103, 44, 32, 76, 117, 100, 119, 105, 103, 44, 32, 74, 114, 46])) ∧ Kept w w' := by
  have h := inverted_any tBerg tLudwig tVander tJr false w (by decide)
  rw [awk_invL] at h; exact h
def awkCells : Array Value := #[.string (bs [78, 103]), .string (bs []), .string (bs []), .string (bs []), .string (bs [76, 105]), .string (bs []), .string (bs []), .string (bs []), .string (bs [87, 117]), .string (bs []), .string (bs []), .string (bs [])]
theorem awk_perss (w : World) (g : Nat) (e : TypeId) (h : Blk w g e awkCells) : Perss w (.slice (some ⟨g, 0, none⟩) 3 3) [([78, 103], [], [], []), ([76, 105], [], [], []), ([87, 117], [], [], [])] := by
  refine ⟨_, _, rfl, by decide, fun _ => ⟨g, 0, rfl, h.lt, fun j q hj => ?_⟩⟩
  have c := fun i v hi => h.cell i v hi
  match j with
  | 0 => cases hj; exact ⟨c 0 _ rfl, c 1 _ rfl, c 2 _ rfl, c 3 _ rfl⟩
  | 1 => cases hj; exact ⟨c 4 _ rfl, c 5 _ rfl, c 6 _ rfl, c 7 _ rfl⟩
  | 2 => cases hj; exact ⟨c 8 _ rfl, c 9 _ rfl, c 10 _ rfl, c 11 _ rfl⟩
  | j + 3 => cases hj
theorem awk_list (w : World) (g : Nat) (e : TypeId) (h : Blk w g e awkCells) : Calls Tryd.prog 26 #[.slice (some ⟨g, 0, none⟩) 3 3, .string (bs [101, 110]), .int .i64 1, .bool false] w fun e w' => e = .returned (.string (bs [78, 103, 32, 97, 110, 100, 32, 111, 116, 104, 101, 114, 115])) ∧ Kept w w' := by
  have h := plist_any _ _ [101, 110] 1 false w (awk_perss w g e h) (by decide) (by decide) (by decide)
  rw [awk_listL] at h; exact h

theorem Blk.new1 (w : World) (o : Obj) (t : TypeId) (cs : Array Value) : Blk ((w.alloc o).alloc (.cells cs t)) (w.heap.size + 1) t cs := by
  have h := Blk.new (w.alloc o) t cs
  have e : (w.alloc o).heap.size = w.heap.size + 1 := by simp
  rw [e] at h; exact h
set_option maxRecDepth 100000 in
set_option maxHeartbeats 3200000 in
theorem awake_any (w : World) (hg : Gnd w) : Calls Tryd.prog 12 #[] w fun e w' => e = .returned (.bool true) ∧ Kept w w' := by
  have HG := Lib.hid hg
  clear hg
  go_enter Tryd.func12, Tryd.ntmps12
  go_wp2_with fail
  refine (berg_any _).mono ?_
  rintro e w1 ⟨rfl, hk1⟩
  have HK1 := Lib.hid hk1
  clear hk1
  go_wp2_with fail
  refine (awk_text _ (HG.out.kept HK1.out)).mono ?_
  rintro e w2 ⟨rfl, hk2⟩
  have HK2 := Lib.hid (HK1.out.trans hk2)
  clear hk2
  go_wp2_with fail
  refine (awk_parse1 _ (HG.out.kept HK2.out)).mono ?_
  rintro e w3 ⟨rfl, hk3⟩
  have HK3 := Lib.hid (HK2.out.trans hk3)
  clear hk3
  go_wp2_with fail
  refine (awk_parse2 _ (HG.out.kept (HK3.out.trans (kept_alloc _ _)))).mono ?_
  rintro e w4 ⟨rfl, hk4⟩
  have HB3 := Lib.hid ((Blk.new w3 24 #[.string (bs [66, 101, 114, 103]), .string (bs [76, 117, 100, 119, 105, 103]), .string (bs []), .string (bs [])]).kept hk4)
  have HK4 := Lib.hid ((HK3.out.trans (kept_alloc _ _)).trans hk4)
  clear hk4
  have c0 : w4.cell? ⟨w3.heap.size, 0, none⟩ = some (.string (bs [66, 101, 114, 103])) := HB3.out.cell 0 _ rfl
  have c1 : w4.cell? ⟨w3.heap.size, 1, none⟩ = some (.string (bs [76, 117, 100, 119, 105, 103])) := HB3.out.cell 1 _ rfl
  have z3 := HB3.out.lt
  go_wp2_with fail
  refine (awk_ini _).mono ?_
  rintro e w5 ⟨rfl, hk5⟩
  have HBL := Lib.hid ((Blk.new1 w4 (.cells #[.string (bs []), .string (bs []), .string (bs []), .string (bs [])] 24) 24 awkCells).kept hk5)
  have HK5 := Lib.hid (((HK4.out.trans (kept_alloc _ _)).trans (kept_alloc _ _)).trans hk5)
  clear hk5 c0 c1 z3 HB3
  go_wp2_with fail
  refine (berg_any _).mono ?_
  rintro e w6 ⟨rfl, hk6⟩
  have HBL6 := Lib.hid (HBL.out.kept hk6)
  have HK6 := Lib.hid (HK5.out.trans hk6)
  clear hk6 HBL
  go_wp2_with fail
  refine (awk_inv _).mono ?_
  rintro e w7 ⟨rfl, hk7⟩
  have HBL7 := Lib.hid (HBL6.out.kept hk7)
  have HK7 := Lib.hid (HK6.out.trans hk7)
  clear hk7 HBL6
  go_wp2_with fail
  refine (awk_list _ _ _ HBL7.out).mono ?_
  rintro e w8 ⟨rfl, hk8⟩
  have HK8 := Lib.hid (HK7.out.trans hk8)
  clear hk8
  go_wp2_with fail
  go_ret
  exact ⟨rfl, HK8.out⟩
end Go.Proofs.YtflpkadknljpbaaDoor
