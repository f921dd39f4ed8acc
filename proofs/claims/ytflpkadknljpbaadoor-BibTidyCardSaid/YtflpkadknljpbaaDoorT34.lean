/- The length of the text of a bibliography against its weight. No condition. -/
import Derived.Test.YtflpkadknljpbaaDoorT33
import Derived.Test.YtflpkadknljpbaaDoorT28
import Derived.Test.YtflpkadknljpbaaDoorT29
import Derived.Test.YtflpkadknljpbaaDoorT14

set_option linter.all false
namespace Go.Proofs.YtflpkadknljpbaaDoor
open Go.RowKit

theorem joinLn_append (xs ys : List Bs) : joinLn (xs ++ ys) = joinLn xs ++ joinLn ys := by simp [joinLn]
theorem joinLn_pers (h : Bs) (hh : h.length = 9) : ∀ ps : List P4, (joinLn (ps.map (persLine h))).length ≤ persW ps
  | [] => by simp [joinLn, persW]
  | p :: ps => by
    have ih := joinLn_pers h hh ps
    have hl := textR_len p.1 p.2.1 p.2.2.1 p.2.2.2
    have e : joinLn ((p :: ps).map (persLine h)) = persLine h p ++ [10] ++ joinLn (ps.map (persLine h)) := by simp [joinLn]
    have e2 : persW (p :: ps) = size4 p + 20 + persW ps := by simp [persW]
    rw [e, e2]
    simp only [List.length_append, persLine, List.length_cons, List.length_nil, hh, size4]
    omega
theorem joinLn_fld : ∀ fs : List Pr, (joinLn (fs.map fldLine)).length ≤ fldW fs
  | [] => by simp [joinLn, fldW]
  | f :: fs => by
    have ih := joinLn_fld fs
    have e : joinLn ((f :: fs).map fldLine) = fldLine f ++ [10] ++ joinLn (fs.map fldLine) := by simp [joinLn]
    have e2 : fldW (f :: fs) = f.1.length + f.2.length + 5 + fldW fs := by simp [fldW]
    rw [e, e2]
    simp only [List.length_append, fldLine, List.length_cons, List.length_nil]
    omega
theorem joinLn_src (s : SrcT) : (joinLn (srcLines s)).length + 1 ≤ srcW s := by
  have h1 := joinLn_pers hAuthor rfl s.author
  have h2 := joinLn_pers hEditor rfl s.editor
  have h3 := joinLn_fld s.fields
  have e1 : (joinLn [headLine s]).length = s.type.length + s.key.length + 4 := by simp [joinLn, headLine]; omega
  have e2 : joinLn [[125]] = [125, 10] := by simp [joinLn]
  unfold srcLines
  simp only [joinLn_append, List.length_append, e1, e2, List.length_cons, List.length_nil]
  unfold srcW
  omega
theorem joinLn_out (ss : List SrcT) : ∀ k, k ≤ ss.length → (joinLn (outL (ss.take k))).length ≤ listW (ss.take k)
  | 0, _ => by simp [outL, joinLn, listW]
  | k + 1, hk => by
    have ih := joinLn_out ss k (by omega)
    obtain ⟨s, hx⟩ : ∃ x, ss[k]? = some x := ⟨_, List.getElem?_eq_getElem (by omega)⟩
    have hs := joinLn_src s
    have e : listW (ss.take (k + 1)) = listW (ss.take k) + srcW s := by
      obtain ⟨hk', rfl⟩ := List.getElem?_eq_some_iff.1 hx
      unfold listW; rw [List.take_succ_eq_append_getElem hk', List.map_append, List.sum_append]; simp
    rw [outL_snoc ss k s hx, joinLn_append, joinLn_append, e]
    simp only [List.length_append]
    have : (joinLn (if k = 0 then [] else [[]])).length ≤ 1 := by split <;> simp [joinLn]
    omega
theorem text_weight (ss : List SrcT) : (joinLn (outL ss)).length ≤ listW ss := by
  have h := joinLn_out ss ss.length (Nat.le_refl _)
  rwa [List.take_length] at h
theorem sum_mem {α : Type} (f : α → Nat) (l : List α) (x : α) (h : x ∈ l) : f x ≤ (l.map f).sum := by
  induction l with
  | nil => cases h
  | cons y l ih =>
    rw [List.map_cons, List.sum_cons]
    rcases List.mem_cons.1 h with rfl | h
    · omega
    · have := ih h; omega
theorem sum_len {α : Type} (f : α → Nat) (l : List α) (hf : ∀ x, 1 ≤ f x) : l.length ≤ (l.map f).sum := by
  induction l with
  | nil => simp
  | cons y l ih => rw [List.map_cons, List.sum_cons, List.length_cons]; have := hf y; omega
theorem small_of (ss : List SrcT) (h : listW ss ≤ 1000000) : ∀ s ∈ ss, SmallS s := by
  intro s hs
  have h0 : srcW s ≤ 1000000 := Nat.le_trans (sum_mem srcW ss s hs) h
  have hA : s.author.length ≤ persW s.author := sum_len _ _ (fun _ => by omega)
  have hE : s.editor.length ≤ persW s.editor := sum_len _ _ (fun _ => by omega)
  have hF : s.fields.length ≤ fldW s.fields := sum_len _ _ (fun _ => by omega)
  unfold srcW at h0
  refine ⟨fun p hp => ?_, fun p hp => ?_, fun p hp => ?_, by omega, by omega, by omega, by omega, by omega⟩
  · have h : size4 p + 20 ≤ persW s.author := sum_mem (fun p => size4 p + 20) s.author p hp
    simp only [size4] at h
    omega
  · have h : size4 p + 20 ≤ persW s.editor := sum_mem (fun p => size4 p + 20) s.editor p hp
    simp only [size4] at h
    omega
  · have h : p.1.length + p.2.length + 5 ≤ fldW s.fields := sum_mem (fun f : Pr => f.1.length + f.2.length + 5) s.fields p hp
    omega
end Go.Proofs.YtflpkadknljpbaaDoor

/- The page's examples of bibliographies, in plain Lean. No condition. -/
set_option linter.all false
namespace Go.Proofs.YtflpkadknljpbaaDoor
open Go.RowKit

def sNg : SrcT := ⟨[110, 103, 48, 49], [97, 114, 116, 105, 99, 108, 101], [([78, 103], [65, 110, 110], [], [])], [], [([116, 105, 116, 108, 101], [79, 110, 32, 98, 111, 120, 101, 115]), ([121, 101, 97, 114], [50, 48, 48, 49])]⟩
def sBk : SrcT := ⟨[107], [98, 111, 111, 107], [], [], [([116, 105, 116, 108, 101], [84])]⟩
def sNo : SrcT := ⟨[107], [98, 111, 111, 107], [], [], []⟩
def tNg : Bs := [64, 97, 114, 116, 105, 99, 108, 101, 123, 110, 103, 48, 49, 44, 10, 97, 117, 116, 104, 111, 114, 32, 61, 32, 78, 103, 44, 32, 65, 110, 110, 10, 116, 105, 116, 108, 101, 32, 61, 32, 79, 110, 32, 98, 111, 120, 101, 115, 10, 121, 101, 97, 114, 32, 61, 32, 50, 48, 48, 49, 10, 125, 10]
def tBk : Bs := [64, 98, 111, 111, 107, 123, 107, 44, 10, 116, 105, 116, 108, 101, 32, 61, 32, 84, 10, 125, 10]
def tNo : Bs := [64, 98, 111, 111, 107, 123, 107, 44, 10, 125, 10]
theorem ng_textE : textE [78, 103] [65, 110, 110] [] [] = 0 := by
  unfold textE
  rw [if_neg (by decide), part_ascii [78, 103] (by decide) (by decide) (by decide +kernel), part_ascii [65, 110, 110] (by decide) (by decide) (by decide +kernel), part_ascii [] (by decide) (by decide) (by decide +kernel)]; rfl
theorem vis_ascii (l : Bs) (h : ∀ b ∈ l, 32 ≤ b.toNat ∧ b.toNat < 127) : validB (bs l) = true := line_vis l (line_ascii l h)
theorem fld_ok (ds : List Pr) (f : Pr) (h1 : nameB f.1 = true) (h2 : f.1 ≠ [97, 117, 116, 104, 111, 114]) (h3 : f.1 ≠ [101, 100, 105, 116, 111, 114]) (h4 : f.2 ≠ []) (h5 : ∀ b ∈ f.2, 32 ≤ b.toNat ∧ b.toNat < 127) (h6 : f.2.contains 10 = false) (h7 : trimL f.2 = f.2) (h8 : hasB ds f.1 = false) : fldE1 ds f = 0 := by
  unfold fldE1
  rw [if_neg (by rw [h1]; simp [h2, h3]), if_neg (by rw [vis_ascii _ h5, h6, h7]; simp [h4]), if_neg (by rw [h8]; simp)]
theorem ng_check : checkE [sNg] = 0 := by
  have e1 : persE sNg.author = 0 := by
    show persE [([78, 103], [65, 110, 110], [], [])] = 0
    simp only [persE]; rw [ng_textE]; rfl
  have f1 : fldE1 [] ([116, 105, 116, 108, 101], [79, 110, 32, 98, 111, 120, 101, 115]) = 0 := fld_ok _ _ (by decide +kernel) (by decide) (by decide) (by decide) (by decide) (by decide) (by decide +kernel) (by decide)
  have f2 : fldE1 [([116, 105, 116, 108, 101], [79, 110, 32, 98, 111, 120, 101, 115])] ([121, 101, 97, 114], [50, 48, 48, 49]) = 0 := fld_ok _ _ (by decide +kernel) (by decide) (by decide) (by decide) (by decide) (by decide) (by decide +kernel) (by decide)
  have e2 : fldE [] sNg.fields = 0 := by
    show fldE [] [([116, 105, 116, 108, 101], [79, 110, 32, 98, 111, 120, 101, 115]), ([121, 101, 97, 114], [50, 48, 48, 49])] = 0
    simp [fldE, f1, f2]
  have e3 : srcE sNg = 0 := by
    unfold srcE
    rw [e1, e2, if_neg (by decide), if_neg (by decide), if_neg (by decide), if_neg (by decide), if_pos (by decide)]
  have n1 : nameB sNg.type = true := by decide +kernel
  have n2 : nameB sNg.key = true := by decide +kernel
  unfold checkE
  rw [if_neg (by decide)]
  simp only [chkE]
  rw [n1, n2, e3]; rfl
theorem bk_check : checkE [sBk] = 0 := by
  have f1 : fldE1 [] ([116, 105, 116, 108, 101], [84]) = 0 := fld_ok _ _ (by decide +kernel) (by decide) (by decide) (by decide) (by decide) (by decide) (by decide +kernel) (by decide)
  have e2 : fldE [] sBk.fields = 0 := by
    show fldE [] [([116, 105, 116, 108, 101], [84])] = 0
    simp only [fldE, List.nil_append]; rw [f1]; rfl
  have e3 : srcE sBk = 0 := by
    unfold srcE
    rw [e2, if_neg (by decide), if_neg (by decide), if_neg (by decide), if_neg (by decide), if_pos (by decide)]
  have n1 : nameB sBk.type = true := by decide +kernel
  have n2 : nameB sBk.key = true := by decide +kernel
  unfold checkE
  rw [if_neg (by decide)]
  simp only [chkE]
  rw [n1, n2, e3]; rfl
theorem no_check : checkE [sNo] = 8 := by decide +kernel
theorem ng_text : textL [sNg] = tNg := by
  unfold textL; rw [ng_check, if_pos rfl]
  have e : textR [78, 103] [65, 110, 110] [] [] = [78, 103, 44, 32, 65, 110, 110] := by unfold textR; rw [ng_textE, if_pos rfl]; decide
  have e2 : srcLines sNg = [[64, 97, 114, 116, 105, 99, 108, 101, 123, 110, 103, 48, 49, 44], [97, 117, 116, 104, 111, 114, 32, 61, 32, 78, 103, 44, 32, 65, 110, 110], [116, 105, 116, 108, 101, 32, 61, 32, 79, 110, 32, 98, 111, 120, 101, 115], [121, 101, 97, 114, 32, 61, 32, 50, 48, 48, 49], [125]] := by
    unfold srcLines
    have e3 : sNg.author.map (persLine hAuthor) = [[97, 117, 116, 104, 111, 114, 32, 61, 32, 78, 103, 44, 32, 65, 110, 110]] := by
      show [persLine hAuthor ([78, 103], [65, 110, 110], [], [])] = _
      unfold persLine; rw [e]; rfl
    rw [e3]; rfl
  have e4 : outL [sNg] = srcLines sNg := by simp [outL]
  rw [e4, e2]; rfl
theorem bk_text : textL [sBk] = tBk := by
  unfold textL; rw [bk_check, if_pos rfl]; rfl
theorem ng_read : bibR tNg = ([sNg], 0, 0) := by
  have h := bib_back [sNg] ng_check (by rw [ng_text]; decide)
  rw [ng_text] at h; exact h
theorem no_valid : validB (bs tNo) = true := by
  have h := join_valid [[64, 98, 111, 111, 107, 123, 107, 44], [125]] (by
    intro x hx
    simp only [List.mem_cons, List.mem_nil_iff, or_false] at hx
    rcases hx with rfl | rfl
    · exact line_ascii _ (by decide)
    · exact line_ascii _ (by decide))
  exact h
theorem no_read : bibR tNo = ([], 2, 8) := by
  unfold bibR
  rw [if_neg (by decide), no_valid, if_neg (by decide)]
  have h : runB (linesL tNo) 0 st0 = (some (2, 8), ⟨[], [[107]], sNo, true⟩) := by kernel_rfl
  rw [h]; rfl
theorem ng_year : yearL ((fieldL sNg.fields [121, 101, 97, 114]).getD []) = 2001 := by decide +kernel
theorem ng_title : fieldL sNg.fields [116, 105, 116, 108, 101] = some [79, 110, 32, 98, 111, 120, 101, 115] := by decide +kernel
end Go.Proofs.YtflpkadknljpbaaDoor
