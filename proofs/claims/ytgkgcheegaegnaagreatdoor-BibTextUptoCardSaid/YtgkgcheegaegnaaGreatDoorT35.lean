/- The page's examples of persons: what the program answers to them. No condition. -/
import Derived.Test.YtgkgcheegaegnaaGreatDoorT19
import Derived.Test.YtgkgcheegaegnaaGreatDoorT32
import Derived.Test.YtgkgcheegaegnaaGreatDoorT34
import Derived.Test.YtgkgcheegaegnaaGreatDoorT33
import Derived.Test.YtgkgcheegaegnaaGreatDoorT14

set_option linter.all false
namespace Go.Proofs.YtgkgcheegaegnaaGreatDoor
open Go.RowKit

theorem line_ascii : ∀ l : Bs, (∀ b ∈ l, 32 ≤ b.toNat ∧ b.toNat < 127) → lineB l = true
  | [], _ => line_nil
  | b :: l, h => by
    have hb := h b (by simp)
    have := line_at b (by omega) [] l
    rw [List.nil_append] at this
    rw [this, line_nil, line_ascii l (fun x hx => h x (by simp [hx]))]; rfl
def tBerg : Bs := [66, 101, 114, 103]
def tLudwig : Bs := [76, 117, 100, 119, 105, 103]
def tVander : Bs := [118, 97, 110, 32, 100, 101, 114]
def tJr : Bs := [74, 114, 46]
theorem part_ascii (l : Bs) (h : ∀ b ∈ l, 32 ≤ b.toNat ∧ b.toNat < 127) (h2 : l.any (inSet setC) = false) (h3 : l = cleanL l) : partB l = true := by
  unfold partB; rw [line_ascii l h, h2]; simpa using h3
theorem awk_textE : textE tBerg tLudwig tVander tJr = 0 := by
  unfold textE
  rw [if_neg (by decide), part_ascii tBerg (by decide) (by decide) (by decide +kernel), part_ascii tLudwig (by decide) (by decide) (by decide +kernel), part_ascii tVander (by decide) (by decide) (by decide +kernel), part_ascii tJr (by decide) (by decide) (by decide +kernel)]; rfl
theorem awk_textR : textR tBerg tLudwig tVander tJr = [123, 118, 97, 110, 32, 100, 101, 114, 125, 32, 66, 101, 114, 103, 44, 32, 74, 114, 46, 44, 32, 76, 117, 100, 119, 105, 103] := by
  unfold textR; rw [awk_textE, if_pos rfl]; decide
theorem awk_parseR1 : parseR [66, 101, 114, 103, 32, 44, 32, 32, 76, 117, 100, 119, 105, 103] = (0, (tBerg, tLudwig, [], [])) := by
  rw [parseR_body, line_ascii _ (by decide), if_pos rfl]; decide +kernel
theorem awk_parseR2 : parseR [44, 32, 65, 110, 110] = (8, zero4) := by
  rw [parseR_body, line_ascii _ (by decide), if_pos rfl]; decide +kernel
theorem awk_iniL : initialsL [74, 101, 97, 110, 45, 80, 97, 117, 108, 32, 77, 97, 114, 105, 101] = [74, 46, 45, 80, 46, 32, 77, 46] := by decide +kernel
theorem awk_invL : invL tBerg tLudwig tVander tJr false = [118, 97, 110, 32, 100, 101, 114, 32, 66, 101, 114, 103, 44, 32, 76, 117, 100, 119, 105, 103, 44, 32, 74, 114, 46] := by decide +kernel
theorem awk_listL : plistL [([78, 103], [], [], []), ([76, 105], [], [], []), ([87, 117], [], [], [])] [101, 110] 1 false = [78, 103, 32, 97, 110, 100, 32, 111, 116, 104, 101, 114, 115] := by decide +kernel

theorem awk_text (w : World) (hg : Gnd w) : Calls Tryz.prog 32 #[persV tBerg tLudwig tVander tJr] w fun e w' => e = .returned (.tuple #[.string (bs [123, 118, 97, 110, 32, 100, 101, 114, 125, 32, 66, 101, 114, 103, 44, 32, 74, 114, 46, 44, 32, 76, 117, 100, 119, 105, 103]), .int .i64 0]) ∧ Kept w w' := by
  have h := text_any tBerg tLudwig tVander tJr w hg (by decide)
  rw [awk_textE, awk_textR] at h; exact h
theorem awk_parse1 (w : World) (hg : Gnd w) : Calls Tryz.prog 85 #[.string (bs [66, 101, 114, 103, 32, 44, 32, 32, 76, 117, 100, 119, 105, 103])] w fun e w' => e = .returned (.tuple #[persV [66, 101, 114, 103] [76, 117, 100, 119, 105, 103] [] [], .int .i64 0]) ∧ Kept w w' := by
  have h := parse_any [66, 101, 114, 103, 32, 44, 32, 32, 76, 117, 100, 119, 105, 103] w hg (by decide)
  unfold ParsePost at h
  rw [awk_parseR1] at h; exact h
theorem awk_parse2 (w : World) (hg : Gnd w) : Calls Tryz.prog 85 #[.string (bs [44, 32, 65, 110, 110])] w fun e w' => e = .returned (.tuple #[persV [] [] [] [], .int .i64 8]) ∧ Kept w w' := by
  have h := parse_any [44, 32, 65, 110, 110] w hg (by decide)
  unfold ParsePost at h
  rw [awk_parseR2] at h; exact h
def awkCells : Array Value := #[.string (bs [78, 103]), .string (bs []), .string (bs []), .string (bs []), .string (bs [76, 105]), .string (bs []), .string (bs []), .string (bs []), .string (bs [87, 117]), .string (bs []), .string (bs []), .string (bs [])]
theorem awk_perss (w : World) (g : Nat) (e : TypeId) (h : Blk w g e awkCells) : Perss w (.slice (some ⟨g, 0, none⟩) 3 3) [([78, 103], [], [], []), ([76, 105], [], [], []), ([87, 117], [], [], [])] := by
  refine ⟨_, _, rfl, by decide, fun _ => ⟨g, 0, rfl, h.lt, fun j q hj => ?_⟩⟩
  have c := fun i v hi => h.cell i v hi
  match j with
  | 0 => cases hj; exact ⟨c 0 _ rfl, c 1 _ rfl, c 2 _ rfl, c 3 _ rfl⟩
  | 1 => cases hj; exact ⟨c 4 _ rfl, c 5 _ rfl, c 6 _ rfl, c 7 _ rfl⟩
  | 2 => cases hj; exact ⟨c 8 _ rfl, c 9 _ rfl, c 10 _ rfl, c 11 _ rfl⟩
  | j + 3 => cases hj
theorem Blk.new1 (w : World) (o : Obj) (t : TypeId) (cs : Array Value) : Blk ((w.alloc o).alloc (.cells cs t)) (w.heap.size + 1) t cs := by
  have h := Blk.new (w.alloc o) t cs
  have e : (w.alloc o).heap.size = w.heap.size + 1 := by simp
  rw [e] at h; exact h
end Go.Proofs.YtgkgcheegaegnaaGreatDoor

/- The page's examples of bibliographies, in plain Lean. No condition. -/
set_option linter.all false
namespace Go.Proofs.YtgkgcheegaegnaaGreatDoor
open Go.RowKit

def sNg : SrcT := ⟨[110, 103, 48, 49], [97, 114, 116, 105, 99, 108, 101], [([78, 103], [65, 110, 110], [], [])], [], [([116, 105, 116, 108, 101], [79, 110, 32, 98, 111, 120, 101, 115]), ([121, 101, 97, 114], [50, 48, 48, 49])]⟩
def sBk : SrcT := ⟨[107], [98, 111, 111, 107], [], [], [([116, 105, 116, 108, 101], [84])]⟩
def sNo : SrcT := ⟨[107], [98, 111, 111, 107], [], [], []⟩
def tNg : Bs := [64, 97, 114, 116, 105, 99, 108, 101, 123, 110, 103, 48, 49, 44, 10, 97, 117, 116, 104, 111, 114, 32, 61, 32, 78, 103, 44, 32, 65, 110, 110, 10, 116, 105, 116, 108, 101, 32, 61, 32, 79, 110, 32, 98, 111, 120, 101, 115, 10, 121, 101, 97, 114, 32, 61, 32, 50, 48, 48, 49, 10, 125, 10]
def tBk : Bs := [64, 98, 111, 111, 107, 123, 107, 44, 10, 116, 105, 116, 108, 101, 32, 61, 32, 84, 10, 125, 10]
def tNo : Bs := [64, 98, 111, 111, 107, 123, 107, 44, 10, 125, 10]
theorem ng_textE : textE [78, 103] [65, 110, 110] [] [] = 0 := by
  unfold textE
  rw [if_neg (by decide), part_ascii [78, 103] (by decide) (by decide) (by decide +kernel), part_ascii [65, 110, 110] (by decide) (by decide) (by decide +kernel), part_ascii [] (by decide) (by decide) (by decide +kernel)]; rfl
theorem vis_ascii (l : Bs) (h : ∀ b ∈ l, 32 ≤ b.toNat ∧ b.toNat < 127) : validB (bs l) = true := line_vis l (line_ascii l h)
theorem fld_ok (ds : List Pr) (f : Pr) (h1 : nameB f.1 = true) (h2 : f.1 ≠ [97, 117, 116, 104, 111, 114]) (h3 : f.1 ≠ [101, 100, 105, 116, 111, 114]) (h4 : f.2 ≠ []) (h5 : ∀ b ∈ f.2, 32 ≤ b.toNat ∧ b.toNat < 127) (h6 : f.2.contains 10 = false) (h7 : trimL f.2 = f.2) (h8 : hasB ds f.1 = false) : fldE1 ds f = 0 := by
  unfold fldE1
  rw [if_neg (by rw [h1]; simp [h2, h3]), if_neg (by rw [vis_ascii _ h5, h6, h7]; simp [h4]), if_neg (by rw [h8]; simp)]
theorem ng_check : checkE [sNg] = 0 := by
  have e1 : persE sNg.author = 0 := by
    show persE [([78, 103], [65, 110, 110], [], [])] = 0
    simp only [persE]; rw [ng_textE]; rfl
  have f1 : fldE1 [] ([116, 105, 116, 108, 101], [79, 110, 32, 98, 111, 120, 101, 115]) = 0 := fld_ok _ _ (by decide +kernel) (by decide) (by decide) (by decide) (by decide) (by decide) (by decide +kernel) (by decide)
  have f2 : fldE1 [([116, 105, 116, 108, 101], [79, 110, 32, 98, 111, 120, 101, 115])] ([121, 101, 97, 114], [50, 48, 48, 49]) = 0 := fld_ok _ _ (by decide +kernel) (by decide) (by decide) (by decide) (by decide) (by decide) (by decide +kernel) (by decide)
  have e2 : fldE [] sNg.fields = 0 := by
    show fldE [] [([116, 105, 116, 108, 101], [79, 110, 32, 98, 111, 120, 101, 115]), ([121, 101, 97, 114], [50, 48, 48, 49])] = 0
    simp [fldE, f1, f2]
  have e3 : srcE sNg = 0 := by
    unfold srcE
    rw [e1, e2, if_neg (by decide), if_neg (by decide), if_neg (by decide), if_neg (by decide), if_pos (by decide)]
  have n1 : nameB sNg.type = true := by decide +kernel
  have n2 : nameB sNg.key = true := by decide +kernel
  unfold checkE
  rw [if_neg (by decide)]
  simp only [chkE]
  rw [n1, n2, e3]; rfl
theorem bk_check : checkE [sBk] = 0 := by
  have f1 : fldE1 [] ([116, 105, 116, 108, 101], [84]) = 0 := fld_ok _ _ (by decide +kernel) (by decide) (by decide) (by decide) (by decide) (by decide) (by decide +kernel) (by decide)
  have e2 : fldE [] sBk.fields = 0 := by
    show fldE [] [([116, 105, 116, 108, 101], [84])] = 0
    simp only [fldE, List.nil_append]; rw [f1]; rfl
  have e3 : srcE sBk = 0 := by
    unfold srcE
    rw [e2, if_neg (by decide), if_neg (by decide), if_neg (by decide), if_neg (by decide), if_pos (by decide)]
  have n1 : nameB sBk.type = true := by decide +kernel
  have n2 : nameB sBk.key = true := by decide +kernel
  unfold checkE
  rw [if_neg (by decide)]
  simp only [chkE]
  rw [n1, n2, e3]; rfl
theorem no_check : checkE [sNo] = 8 := by decide +kernel
theorem ng_text : textL [sNg] = tNg := by
  unfold textL; rw [ng_check, if_pos rfl]
  have e : textR [78, 103] [65, 110, 110] [] [] = [78, 103, 44, 32, 65, 110, 110] := by unfold textR; rw [ng_textE, if_pos rfl]; decide
  have e2 : srcLines sNg = [[64, 97, 114, 116, 105, 99, 108, 101, 123, 110, 103, 48, 49, 44], [97, 117, 116, 104, 111, 114, 32, 61, 32, 78, 103, 44, 32, 65, 110, 110], [116, 105, 116, 108, 101, 32, 61, 32, 79, 110, 32, 98, 111, 120, 101, 115], [121, 101, 97, 114, 32, 61, 32, 50, 48, 48, 49], [125]] := by
    unfold srcLines
    have e3 : sNg.author.map (persLine hAuthor) = [[97, 117, 116, 104, 111, 114, 32, 61, 32, 78, 103, 44, 32, 65, 110, 110]] := by
      show [persLine hAuthor ([78, 103], [65, 110, 110], [], [])] = _
      unfold persLine; rw [e]; rfl
    rw [e3]; rfl
  have e4 : outL [sNg] = srcLines sNg := by simp [outL]
  rw [e4, e2]; rfl
theorem bk_text : textL [sBk] = tBk := by
  unfold textL; rw [bk_check, if_pos rfl]; rfl
theorem ng_read : bibR tNg = ([sNg], 0, 0) := by
  have h := bib_back [sNg] ng_check (by rw [ng_text]; decide)
  rw [ng_text] at h; exact h
theorem no_valid : validB (bs tNo) = true := by
  have h := join_valid [[64, 98, 111, 111, 107, 123, 107, 44], [125]] (by
    intro x hx
    simp only [List.mem_cons, List.mem_nil_iff, or_false] at hx
    rcases hx with rfl | rfl
    · exact line_ascii _ (by decide)
    · exact line_ascii _ (by decide))
  exact h
theorem no_read : bibR tNo = ([], 2, 8) := by
  unfold bibR
  rw [if_neg (by decide), no_valid, if_neg (by decide)]
  have h : runB (linesL tNo) 0 st0 = (some (2, 8), ⟨[], [[107]], sNo, true⟩) := by kernel_rfl
  rw [h]; rfl
theorem ng_year : yearL ((fieldL sNg.fields [121, 101, 97, 114]).getD []) = 2001 := by decide +kernel
theorem ng_title : fieldL sNg.fields [116, 105, 116, 108, 101] = some [79, 110, 32, 98, 111, 120, 101, 115] := by decide +kernel
end Go.Proofs.YtgkgcheegaegnaaGreatDoor
