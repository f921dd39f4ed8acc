/- Inverted of package person. Conditions: lengths. -/
import Derived.Test.YteflhlbgbgamnaaGreatDoorT38
import Derived.Test.YteflhlbgbgamnaaGreatDoorT39
import Derived.Test.YteflhlbgbgamnaaGreatDoorT18
import Derived.Test.YteflhlbgbgamnaaGreatDoorT36

set_option linter.all false
namespace Go.Proofs.YteflhlbgbgamnaaGreatDoor
open Go.RowKit

theorem ini_len : ∀ (l : Bs) (bg iw sm : Bool), (ini l bg iw sm).length ≤ 6 * l.length
  | [], _, _, _ => by simp [ini]
  | b :: r, bg, iw, sm => by
    rw [ini_cons]
    have h1 := ini_len r true false sm
    have h2 := ini_len r true iw sm
    have h3 := ini_len r false true true
    have h4 := ini_len r false iw sm
    have hp : (pieceI (b :: r)).length ≤ 5 := by unfold pieceI; have := encL_len (dec (bs (b :: r)) 0).1; simp; omega
    have hl : (if iw then [45] else if sm then [32] else ([] : Bs)).length ≤ 1 := by cases iw <;> cases sm <;> simp
    simp only [List.length_cons]
    split
    · omega
    split
    · omega
    split
    · simp only [List.length_append]; omega
    · omega
theorem initialsL_len (g : Bs) : (initialsL g).length ≤ 6 * g.length := by rw [initials_ini]; exact ini_len g _ _ _
def givenI (g : Bs) (i : Bool) : Bs := if i then initialsL g else g
def invL (f g p s : Bs) (i : Bool) : Bs := joinedL [p, f] ++ (if givenI g i = [] then [] else [44, 32] ++ givenI g i) ++ (if s = [] then [] else [44, 32] ++ s)

end Go.Proofs.YteflhlbgbgamnaaGreatDoor

/- The page's examples of persons: what the program answers to them. No condition. -/
set_option linter.all false
namespace Go.Proofs.YteflhlbgbgamnaaGreatDoor
open Go.RowKit

theorem line_ascii : ∀ l : Bs, (∀ b ∈ l, 32 ≤ b.toNat ∧ b.toNat < 127) → lineB l = true
  | [], _ => line_nil
  | b :: l, h => by
    have hb := h b (by simp)
    have := line_at b (by omega) [] l
    rw [List.nil_append] at this
    rw [this, line_nil, line_ascii l (fun x hx => h x (by simp [hx]))]; rfl
def tBerg : Bs := [66, 101, 114, 103]
def tLudwig : Bs := [76, 117, 100, 119, 105, 103]
def tVander : Bs := [118, 97, 110, 32, 100, 101, 114]
def tJr : Bs := [74, 114, 46]
theorem part_ascii (l : Bs) (h : ∀ b ∈ l, 32 ≤ b.toNat ∧ b.toNat < 127) (h2 : l.any (inSet setC) = false) (h3 : l = cleanL l) : partB l = true := by
  unfold partB; rw [line_ascii l h, h2]; simpa using h3
theorem awk_textE : textE tBerg tLudwig tVander tJr = 0 := by
  unfold textE
  rw [if_neg (by decide), part_ascii tBerg (by decide) (by decide) (by decide +kernel), part_ascii tLudwig (by decide) (by decide) (by decide +kernel), part_ascii tVander (by decide) (by decide) (by decide +kernel), part_ascii tJr (by decide) (by decide) (by decide +kernel)]; rfl
theorem awk_textR : textR tBerg tLudwig tVander tJr = [123, 118, 97, 110, 32, 100, 101, 114, 125, 32, 66, 101, 114, 103, 44, 32, 74, 114, 46, 44, 32, 76, 117, 100, 119, 105, 103] := by
  unfold textR; rw [awk_textE, if_pos rfl]; decide
theorem awk_parseR1 : parseR [66, 101, 114, 103, 32, 44, 32, 32, 76, 117, 100, 119, 105, 103] = (0, (tBerg, tLudwig, [], [])) := by
  rw [parseR_body, line_ascii _ (by decide), if_pos rfl]; decide +kernel
theorem awk_parseR2 : parseR [44, 32, 65, 110, 110] = (8, zero4) := by
  rw [parseR_body, line_ascii _ (by decide), if_pos rfl]; decide +kernel
theorem awk_iniL : initialsL [74, 101, 97, 110, 45, 80, 97, 117, 108, 32, 77, 97, 114, 105, 101] = [74, 46, 45, 80, 46, 32, 77, 46] := by decide +kernel
theorem awk_invL : invL tBerg tLudwig tVander tJr false = [118, 97, 110, 32, 100, 101, 114, 32, 66, 101, 114, 103, 44, 32, 76, 117, 100, 119, 105, 103, 44, 32, 74, 114, 46] := by decide +kernel
theorem awk_listL : plistL [([78, 103], [], [], []), ([76, 105], [], [], []), ([87, 117], [], [], [])] [101, 110] 1 false = [78, 103, 32, 97, 110, 100, 32, 111, 116, 104, 101, 114, 115] := by decide +kernel

theorem awk_text (w : World) (hg : Gnd w) : Calls Tryz.prog 79 #[persV tBerg tLudwig tVander tJr] w fun e w' => e = .returned (.tuple #[.string (bs [123, 118, 97, 110, 32, 100, 101, 114, 125, 32, 66, 101, 114, 103, 44, 32, 74, 114, 46, 44, 32, 76, 117, 100, 119, 105, 103]), .int .i64 0]) ∧ Kept w w' := by
  have h := text_any tBerg tLudwig tVander tJr w hg (by decide)
  rw [awk_textE, awk_textR] at h; exact h
theorem awk_parse1 (w : World) (hg : Gnd w) : Calls Tryz.prog 144 #[.string (bs [66, 101, 114, 103, 32, 44, 32, 32, 76, 117, 100, 119, 105, 103])] w fun e w' => e = .returned (.tuple #[persV [66, 101, 114, 103] [76, 117, 100, 119, 105, 103] [] [], .int .i64 0]) ∧ Kept w w' := by
  have h := parse_any [66, 101, 114, 103, 32, 44, 32, 32, 76, 117, 100, 119, 105, 103] w hg (by decide)
  unfold ParsePost at h
  rw [awk_parseR1] at h; exact h
theorem awk_parse2 (w : World) (hg : Gnd w) : Calls Tryz.prog 144 #[.string (bs [44, 32, 65, 110, 110])] w fun e w' => e = .returned (.tuple #[persV [] [] [] [], .int .i64 8]) ∧ Kept w w' := by
  have h := parse_any [44, 32, 65, 110, 110] w hg (by decide)
  unfold ParsePost at h
  rw [awk_parseR2] at h; exact h
def awkCells : Array Value := #[.string (bs [78, 103]), .string (bs []), .string (bs []), .string (bs []), .string (bs [76, 105]), .string (bs []), .string (bs []), .string (bs []), .string (bs [87, 117]), .string (bs []), .string (bs []), .string (bs [])]
theorem awk_perss (w : World) (g : Nat) (e : TypeId) (h : Blk w g e awkCells) : Perss w (.slice (some ⟨g, 0, none⟩) 3 3) [([78, 103], [], [], []), ([76, 105], [], [], []), ([87, 117], [], [], [])] := by
  refine ⟨_, _, rfl, by decide, fun _ => ⟨g, 0, rfl, h.lt, fun j q hj => ?_⟩⟩
  have c := fun i v hi => h.cell i v hi
  match j with
  | 0 => cases hj; exact ⟨c 0 _ rfl, c 1 _ rfl, c 2 _ rfl, c 3 _ rfl⟩
  | 1 => cases hj; exact ⟨c 4 _ rfl, c 5 _ rfl, c 6 _ rfl, c 7 _ rfl⟩
  | 2 => cases hj; exact ⟨c 8 _ rfl, c 9 _ rfl, c 10 _ rfl, c 11 _ rfl⟩
  | j + 3 => cases hj
theorem Blk.new1 (w : World) (o : Obj) (t : TypeId) (cs : Array Value) : Blk ((w.alloc o).alloc (.cells cs t)) (w.heap.size + 1) t cs := by
  have h := Blk.new (w.alloc o) t cs
  have e : (w.alloc o).heap.size = w.heap.size + 1 := by simp
  rw [e] at h; exact h
end Go.Proofs.YteflhlbgbgamnaaGreatDoor
