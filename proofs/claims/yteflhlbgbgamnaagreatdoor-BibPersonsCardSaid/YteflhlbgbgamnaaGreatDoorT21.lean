/- (*reader).add of package bib: the walks. Conditions: lengths. -/
import Derived.Test.YteflhlbgbgamnaaGreatDoorT20
import Derived.Test.YteflhlbgbgamnaaGreatDoorT10

set_option linter.all false
namespace Go.Proofs.YteflhlbgbgamnaaGreatDoor
open Go.RowKit

theorem trimR_le (t : Bs) : (trimR t).length ≤ t.length := by
  unfold trimR
  have : ∀ l : Bs, (l.dropWhile (· == 32)).length ≤ l.length := by
    intro l
    induction l with
    | nil => simp
    | cons b l ih => rw [List.dropWhile_cons]; split <;> simp at ih ⊢; omega
  have h := this t.reverse
  simp at h ⊢; exact h
theorem trimL_le (l : Bs) : (trimL l).length ≤ l.length := by
  unfold trimL
  have := trimR_le (l.drop (indentL l))
  simp at this; omega

set_option maxRecDepth 100000 in
set_option maxHeartbeats 3200000 in
theorem add_form (r T m : Nat) (vD : Value) (s : SrcT) (vA vE vF : Value) (l : Bs) (w : World) (hg : Gnd w) (hl : l.length ≤ 100000) (hb : Blk w r 71 (rdC vD m s vA vE vF true)) (hs : SrcRow w T s vA vE vF) (hT : r < T) (hTs : T ≤ w.heap.size)
    (hcut : ¬ before 61 l < l.length)  :
    Calls Tryz.prog 87 #[.pointer (some ⟨r, 0, none⟩), .string (bs l)] w (AddPost r T m vD (5) (s) w) := by
  have HG := Lib.hid hg
  have HB := Lib.hid hb
  have HS := Lib.hid hs
  have HC := Lib.hid (cut_any l 61 w hg (by omega))
  rw [if_neg hcut] at HC
  clear hg hb hs hcut
  go_enter Tryz.func87, Tryz.ntmps87
  go_wp2_with fail
  refine HC.out.mono ?_
  rintro e w1 ⟨rfl, n1, rfl⟩
  go_wp2_with fail
  go_ret
  exact AddPost.same HB.out HS.out (kept_drewN _ _)

set_option maxRecDepth 100000 in
set_option maxHeartbeats 3200000 in
theorem add_author_no (r T m : Nat) (vD : Value) (s : SrcT) (vA vE vF : Value) (l : Bs) (w : World) (hg : Gnd w) (hl : l.length ≤ 100000) (hb : Blk w r 71 (rdC vD m s vA vE vF true)) (hs : SrcRow w T s vA vE vF) (hT : r < T) (hTs : T ≤ w.heap.size)
    (hcut : before 61 l < l.length) (hk : trimL (l.take (before 61 l)) = [97, 117, 116, 104, 111, 114]) (hn : (parseR (trimL (l.drop (before 61 l + 1)))).1 ≠ 0) :
    Calls Tryz.prog 87 #[.pointer (some ⟨r, 0, none⟩), .string (bs l)] w (AddPost r T m vD ((parseR (trimL (l.drop (before 61 l + 1)))).1) (s) w) := by
  have HG := Lib.hid hg
  have HB := Lib.hid hb
  have HS := Lib.hid hs
  have HC := Lib.hid (cut_any l 61 w hg (by omega))
  rw [if_pos hcut] at HC
  have hkl := trimL_le (l.take (before 61 l))
  have hvl := trimL_le (l.drop (before 61 l + 1))
  have htk : (l.take (before 61 l)).length ≤ 100000 := by simp; omega
  have htv : (l.drop (before 61 l + 1)).length ≤ 100000 := by simp; omega
  have HTK := Lib.hid (fun w => trim_any (l.take (before 61 l)) w (by omega))
  have HTV := Lib.hid (fun w => trim_any (l.drop (before 61 l + 1)) w (by omega))
  generalize trimL (l.take (before 61 l)) = k at *
  generalize trimL (l.drop (before 61 l + 1)) = v at *
  generalize l.take (before 61 l) = lk at *
  generalize l.drop (before 61 l + 1) = lv at *
  clear hg hb hs hcut
  subst hk
  go_enter Tryz.func87, Tryz.ntmps87
  go_wp2_with fail
  refine HC.out.mono ?_
  rintro e w1 ⟨rfl, n1, rfl⟩
  have HK1 := Lib.hid (kept_drewN w n1)
  generalize w.drewN n1 = w1 at *
  go_wp2_with fail
  refine (HTK.out _).mono ?_
  rintro e w' ⟨rfl, rfl⟩
  go_wp2_with fail
  refine (HTV.out _).mono ?_
  rintro e w' ⟨rfl, rfl⟩
  have HB1 := Lib.hid (HB.out.kept HK1.out)
  have hr1 := HB1.out.lt
  go_wp2_with fail
  refine (addp_no r 4 v w1 (HG.out.kept HK1.out) (by omega) hn).mono ?_
  rintro e w2 ⟨rfl, h2⟩
  have H2 := Lib.hid h2
  clear h2
  go_wp2_with fail
  go_ret
  exact AddPost.same HB.out HS.out (HK1.out.trans H2.out)

set_option maxRecDepth 100000 in
set_option maxHeartbeats 3200000 in
theorem add_author_full (r T m : Nat) (vD : Value) (s : SrcT) (vA vE vF : Value) (l : Bs) (w : World) (hg : Gnd w) (hl : l.length ≤ 100000) (hb : Blk w r 71 (rdC vD m s vA vE vF true)) (hs : SrcRow w T s vA vE vF) (hT : r < T) (hTs : T ≤ w.heap.size)
    (hcut : before 61 l < l.length) (hk : trimL (l.take (before 61 l)) = [97, 117, 116, 104, 111, 114]) (hn : (parseR (trimL (l.drop (before 61 l + 1)))).1 = 0) (h32 : 32 ≤ s.author.length) (hmax : s.author.length ≤ 1000000) :
    Calls Tryz.prog 87 #[.pointer (some ⟨r, 0, none⟩), .string (bs l)] w (AddPost r T m vD (3) (s) w) := by
  have HG := Lib.hid hg
  have HB := Lib.hid hb
  have HS := Lib.hid hs
  have HC := Lib.hid (cut_any l 61 w hg (by omega))
  rw [if_pos hcut] at HC
  have hkl := trimL_le (l.take (before 61 l))
  have hvl := trimL_le (l.drop (before 61 l + 1))
  have htk : (l.take (before 61 l)).length ≤ 100000 := by simp; omega
  have htv : (l.drop (before 61 l + 1)).length ≤ 100000 := by simp; omega
  have HTK := Lib.hid (fun w => trim_any (l.take (before 61 l)) w (by omega))
  have HTV := Lib.hid (fun w => trim_any (l.drop (before 61 l + 1)) w (by omega))
  generalize trimL (l.take (before 61 l)) = k at *
  generalize trimL (l.drop (before 61 l + 1)) = v at *
  generalize l.take (before 61 l) = lk at *
  generalize l.drop (before 61 l + 1) = lv at *
  clear hg hb hs hcut
  subst hk
  go_enter Tryz.func87, Tryz.ntmps87
  go_wp2_with fail
  refine HC.out.mono ?_
  rintro e w1 ⟨rfl, n1, rfl⟩
  have HK1 := Lib.hid (kept_drewN w n1)
  generalize w.drewN n1 = w1 at *
  go_wp2_with fail
  refine (HTK.out _).mono ?_
  rintro e w' ⟨rfl, rfl⟩
  go_wp2_with fail
  refine (HTV.out _).mono ?_
  rintro e w' ⟨rfl, rfl⟩
  have HB1 := Lib.hid (HB.out.kept HK1.out)
  have hr1 := HB1.out.lt
  obtain ⟨a, c, hv, _⟩ := own_cap HS.out.a
  have hcell : w1.cell? ⟨r, 4, none⟩ = some (.slice a s.author.length c) := by rw [← hv]; exact HB1.out.cell 4 _ rfl
  have HCELL := Lib.hid hcell
  clear hv hcell
  go_wp2_with fail
  refine (addp_full r 4 s.author.length a c v w1 (HG.out.kept HK1.out) (by omega) hn HCELL.out h32 hmax).mono ?_
  rintro e w2 ⟨rfl, h2⟩
  have H2 := Lib.hid h2
  clear h2
  go_wp2_with fail
  go_ret
  exact AddPost.same HB.out HS.out (HK1.out.trans H2.out)

set_option maxRecDepth 100000 in
set_option maxHeartbeats 3200000 in
theorem add_author_ok (r T m : Nat) (vD : Value) (s : SrcT) (vA vE vF : Value) (l : Bs) (w : World) (hg : Gnd w) (hl : l.length ≤ 100000) (hb : Blk w r 71 (rdC vD m s vA vE vF true)) (hs : SrcRow w T s vA vE vF) (hT : r < T) (hTs : T ≤ w.heap.size)
    (hcut : before 61 l < l.length) (hk : trimL (l.take (before 61 l)) = [97, 117, 116, 104, 111, 114]) (hn : (parseR (trimL (l.drop (before 61 l + 1)))).1 = 0) (h32 : s.author.length < 32) :
    Calls Tryz.prog 87 #[.pointer (some ⟨r, 0, none⟩), .string (bs l)] w (AddPost r T m vD (0) ({ s with author := s.author ++ [(parseR (trimL (l.drop (before 61 l + 1)))).2] }) w) := by
  have HG := Lib.hid hg
  have HB := Lib.hid hb
  have HS := Lib.hid hs
  have HC := Lib.hid (cut_any l 61 w hg (by omega))
  rw [if_pos hcut] at HC
  have hkl := trimL_le (l.take (before 61 l))
  have hvl := trimL_le (l.drop (before 61 l + 1))
  have htk : (l.take (before 61 l)).length ≤ 100000 := by simp; omega
  have htv : (l.drop (before 61 l + 1)).length ≤ 100000 := by simp; omega
  have HTK := Lib.hid (fun w => trim_any (l.take (before 61 l)) w (by omega))
  have HTV := Lib.hid (fun w => trim_any (l.drop (before 61 l + 1)) w (by omega))
  generalize trimL (l.take (before 61 l)) = k at *
  generalize trimL (l.drop (before 61 l + 1)) = v at *
  generalize l.take (before 61 l) = lk at *
  generalize l.drop (before 61 l + 1) = lv at *
  clear hg hb hs hcut
  subst hk
  go_enter Tryz.func87, Tryz.ntmps87
  go_wp2_with fail
  refine HC.out.mono ?_
  rintro e w1 ⟨rfl, n1, rfl⟩
  have HK1 := Lib.hid (kept_drewN w n1)
  generalize w.drewN n1 = w1 at *
  go_wp2_with fail
  refine (HTK.out _).mono ?_
  rintro e w' ⟨rfl, rfl⟩
  go_wp2_with fail
  refine (HTV.out _).mono ?_
  rintro e w' ⟨rfl, rfl⟩
  have HB1 := Lib.hid (HB.out.kept HK1.out)
  have hr1 := HB1.out.lt
  go_wp2_with fail
  refine (addp_ok r 4 T vA s.author v 71 _ w1 (HG.out.kept HK1.out) (by omega) hn HB1.out rfl hT (by have := HK1.out.size; omega) (own_kept HS.out.a HK1.out) h32).mono ?_
  rintro e w2 ⟨rfl, h2⟩
  have H2 := Lib.hid h2
  clear h2
  go_wp2_with fail
  go_ret
  exact AddPost.author HB.out HS.out HK1.out hT hTs H2.out

set_option maxRecDepth 100000 in
set_option maxHeartbeats 3200000 in
theorem add_editor_no (r T m : Nat) (vD : Value) (s : SrcT) (vA vE vF : Value) (l : Bs) (w : World) (hg : Gnd w) (hl : l.length ≤ 100000) (hb : Blk w r 71 (rdC vD m s vA vE vF true)) (hs : SrcRow w T s vA vE vF) (hT : r < T) (hTs : T ≤ w.heap.size)
    (hcut : before 61 l < l.length) (hk : trimL (l.take (before 61 l)) = [101, 100, 105, 116, 111, 114]) (hn : (parseR (trimL (l.drop (before 61 l + 1)))).1 ≠ 0) :
    Calls Tryz.prog 87 #[.pointer (some ⟨r, 0, none⟩), .string (bs l)] w (AddPost r T m vD ((parseR (trimL (l.drop (before 61 l + 1)))).1) (s) w) := by
  have HG := Lib.hid hg
  have HB := Lib.hid hb
  have HS := Lib.hid hs
  have HC := Lib.hid (cut_any l 61 w hg (by omega))
  rw [if_pos hcut] at HC
  have hkl := trimL_le (l.take (before 61 l))
  have hvl := trimL_le (l.drop (before 61 l + 1))
  have htk : (l.take (before 61 l)).length ≤ 100000 := by simp; omega
  have htv : (l.drop (before 61 l + 1)).length ≤ 100000 := by simp; omega
  have HTK := Lib.hid (fun w => trim_any (l.take (before 61 l)) w (by omega))
  have HTV := Lib.hid (fun w => trim_any (l.drop (before 61 l + 1)) w (by omega))
  generalize trimL (l.take (before 61 l)) = k at *
  generalize trimL (l.drop (before 61 l + 1)) = v at *
  generalize l.take (before 61 l) = lk at *
  generalize l.drop (before 61 l + 1) = lv at *
  clear hg hb hs hcut
  subst hk
  go_enter Tryz.func87, Tryz.ntmps87
  go_wp2_with fail
  refine HC.out.mono ?_
  rintro e w1 ⟨rfl, n1, rfl⟩
  have HK1 := Lib.hid (kept_drewN w n1)
  generalize w.drewN n1 = w1 at *
  go_wp2_with fail
  refine (HTK.out _).mono ?_
  rintro e w' ⟨rfl, rfl⟩
  go_wp2_with fail
  refine (HTV.out _).mono ?_
  rintro e w' ⟨rfl, rfl⟩
  have HB1 := Lib.hid (HB.out.kept HK1.out)
  have hr1 := HB1.out.lt
  go_wp2_with fail
  refine (addp_no r 5 v w1 (HG.out.kept HK1.out) (by omega) hn).mono ?_
  rintro e w2 ⟨rfl, h2⟩
  have H2 := Lib.hid h2
  clear h2
  go_wp2_with fail
  go_ret
  exact AddPost.same HB.out HS.out (HK1.out.trans H2.out)

set_option maxRecDepth 100000 in
set_option maxHeartbeats 3200000 in
theorem add_editor_full (r T m : Nat) (vD : Value) (s : SrcT) (vA vE vF : Value) (l : Bs) (w : World) (hg : Gnd w) (hl : l.length ≤ 100000) (hb : Blk w r 71 (rdC vD m s vA vE vF true)) (hs : SrcRow w T s vA vE vF) (hT : r < T) (hTs : T ≤ w.heap.size)
    (hcut : before 61 l < l.length) (hk : trimL (l.take (before 61 l)) = [101, 100, 105, 116, 111, 114]) (hn : (parseR (trimL (l.drop (before 61 l + 1)))).1 = 0) (h32 : 32 ≤ s.editor.length) (hmax : s.editor.length ≤ 1000000) :
    Calls Tryz.prog 87 #[.pointer (some ⟨r, 0, none⟩), .string (bs l)] w (AddPost r T m vD (3) (s) w) := by
  have HG := Lib.hid hg
  have HB := Lib.hid hb
  have HS := Lib.hid hs
  have HC := Lib.hid (cut_any l 61 w hg (by omega))
  rw [if_pos hcut] at HC
  have hkl := trimL_le (l.take (before 61 l))
  have hvl := trimL_le (l.drop (before 61 l + 1))
  have htk : (l.take (before 61 l)).length ≤ 100000 := by simp; omega
  have htv : (l.drop (before 61 l + 1)).length ≤ 100000 := by simp; omega
  have HTK := Lib.hid (fun w => trim_any (l.take (before 61 l)) w (by omega))
  have HTV := Lib.hid (fun w => trim_any (l.drop (before 61 l + 1)) w (by omega))
  generalize trimL (l.take (before 61 l)) = k at *
  generalize trimL (l.drop (before 61 l + 1)) = v at *
  generalize l.take (before 61 l) = lk at *
  generalize l.drop (before 61 l + 1) = lv at *
  clear hg hb hs hcut
  subst hk
  go_enter Tryz.func87, Tryz.ntmps87
  go_wp2_with fail
  refine HC.out.mono ?_
  rintro e w1 ⟨rfl, n1, rfl⟩
  have HK1 := Lib.hid (kept_drewN w n1)
  generalize w.drewN n1 = w1 at *
  go_wp2_with fail
  refine (HTK.out _).mono ?_
  rintro e w' ⟨rfl, rfl⟩
  go_wp2_with fail
  refine (HTV.out _).mono ?_
  rintro e w' ⟨rfl, rfl⟩
  have HB1 := Lib.hid (HB.out.kept HK1.out)
  have hr1 := HB1.out.lt
  obtain ⟨a, c, hv, _⟩ := own_cap HS.out.e
  have hcell : w1.cell? ⟨r, 5, none⟩ = some (.slice a s.editor.length c) := by rw [← hv]; exact HB1.out.cell 5 _ rfl
  have HCELL := Lib.hid hcell
  clear hv hcell
  go_wp2_with fail
  refine (addp_full r 5 s.editor.length a c v w1 (HG.out.kept HK1.out) (by omega) hn HCELL.out h32 hmax).mono ?_
  rintro e w2 ⟨rfl, h2⟩
  have H2 := Lib.hid h2
  clear h2
  go_wp2_with fail
  go_ret
  exact AddPost.same HB.out HS.out (HK1.out.trans H2.out)

set_option maxRecDepth 100000 in
set_option maxHeartbeats 3200000 in
theorem add_editor_ok (r T m : Nat) (vD : Value) (s : SrcT) (vA vE vF : Value) (l : Bs) (w : World) (hg : Gnd w) (hl : l.length ≤ 100000) (hb : Blk w r 71 (rdC vD m s vA vE vF true)) (hs : SrcRow w T s vA vE vF) (hT : r < T) (hTs : T ≤ w.heap.size)
    (hcut : before 61 l < l.length) (hk : trimL (l.take (before 61 l)) = [101, 100, 105, 116, 111, 114]) (hn : (parseR (trimL (l.drop (before 61 l + 1)))).1 = 0) (h32 : s.editor.length < 32) :
    Calls Tryz.prog 87 #[.pointer (some ⟨r, 0, none⟩), .string (bs l)] w (AddPost r T m vD (0) ({ s with editor := s.editor ++ [(parseR (trimL (l.drop (before 61 l + 1)))).2] }) w) := by
  have HG := Lib.hid hg
  have HB := Lib.hid hb
  have HS := Lib.hid hs
  have HC := Lib.hid (cut_any l 61 w hg (by omega))
  rw [if_pos hcut] at HC
  have hkl := trimL_le (l.take (before 61 l))
  have hvl := trimL_le (l.drop (before 61 l + 1))
  have htk : (l.take (before 61 l)).length ≤ 100000 := by simp; omega
  have htv : (l.drop (before 61 l + 1)).length ≤ 100000 := by simp; omega
  have HTK := Lib.hid (fun w => trim_any (l.take (before 61 l)) w (by omega))
  have HTV := Lib.hid (fun w => trim_any (l.drop (before 61 l + 1)) w (by omega))
  generalize trimL (l.take (before 61 l)) = k at *
  generalize trimL (l.drop (before 61 l + 1)) = v at *
  generalize l.take (before 61 l) = lk at *
  generalize l.drop (before 61 l + 1) = lv at *
  clear hg hb hs hcut
  subst hk
  go_enter Tryz.func87, Tryz.ntmps87
  go_wp2_with fail
  refine HC.out.mono ?_
  rintro e w1 ⟨rfl, n1, rfl⟩
  have HK1 := Lib.hid (kept_drewN w n1)
  generalize w.drewN n1 = w1 at *
  go_wp2_with fail
  refine (HTK.out _).mono ?_
  rintro e w' ⟨rfl, rfl⟩
  go_wp2_with fail
  refine (HTV.out _).mono ?_
  rintro e w' ⟨rfl, rfl⟩
  have HB1 := Lib.hid (HB.out.kept HK1.out)
  have hr1 := HB1.out.lt
  go_wp2_with fail
  refine (addp_ok r 5 T vE s.editor v 71 _ w1 (HG.out.kept HK1.out) (by omega) hn HB1.out rfl hT (by have := HK1.out.size; omega) (own_kept HS.out.e HK1.out) h32).mono ?_
  rintro e w2 ⟨rfl, h2⟩
  have H2 := Lib.hid h2
  clear h2
  go_wp2_with fail
  go_ret
  exact AddPost.editor HB.out HS.out HK1.out hT hTs H2.out

set_option maxRecDepth 100000 in
set_option maxHeartbeats 3200000 in
theorem add_name (r T m : Nat) (vD : Value) (s : SrcT) (vA vE vF : Value) (l : Bs) (w : World) (hg : Gnd w) (hl : l.length ≤ 100000) (hb : Blk w r 71 (rdC vD m s vA vE vF true)) (hs : SrcRow w T s vA vE vF) (hT : r < T) (hTs : T ≤ w.heap.size)
    (hcut : before 61 l < l.length) (ha : (trimL (l.take (before 61 l)) == [97, 117, 116, 104, 111, 114]) = false) (he : (trimL (l.take (before 61 l)) == [101, 100, 105, 116, 111, 114]) = false) (hnm : nameB (trimL (l.take (before 61 l))) = false) :
    Calls Tryz.prog 87 #[.pointer (some ⟨r, 0, none⟩), .string (bs l)] w (AddPost r T m vD (6) (s) w) := by
  have HG := Lib.hid hg
  have HB := Lib.hid hb
  have HS := Lib.hid hs
  have HC := Lib.hid (cut_any l 61 w hg (by omega))
  rw [if_pos hcut] at HC
  have hkl := trimL_le (l.take (before 61 l))
  have hvl := trimL_le (l.drop (before 61 l + 1))
  have htk : (l.take (before 61 l)).length ≤ 100000 := by simp; omega
  have htv : (l.drop (before 61 l + 1)).length ≤ 100000 := by simp; omega
  have HTK := Lib.hid (fun w => trim_any (l.take (before 61 l)) w (by omega))
  have HTV := Lib.hid (fun w => trim_any (l.drop (before 61 l + 1)) w (by omega))
  generalize trimL (l.take (before 61 l)) = k at *
  generalize trimL (l.drop (before 61 l + 1)) = v at *
  generalize l.take (before 61 l) = lk at *
  generalize l.drop (before 61 l + 1) = lv at *
  clear hg hb hs hcut
  go_enter Tryz.func87, Tryz.ntmps87
  go_wp2_with fail
  refine HC.out.mono ?_
  rintro e w1 ⟨rfl, n1, rfl⟩
  have HK1 := Lib.hid (kept_drewN w n1)
  generalize w.drewN n1 = w1 at *
  go_wp2_with fail
  refine (HTK.out _).mono ?_
  rintro e w' ⟨rfl, rfl⟩
  go_wp2_with fail
  refine (HTV.out _).mono ?_
  rintro e w' ⟨rfl, rfl⟩
  go_wp2_with fail
  refine (isName_any k _ (by omega)).mono ?_
  rw [hnm]
  rintro e w2 ⟨rfl, hk2⟩
  have HK2 := Lib.hid (HK1.out.trans hk2)
  clear hk2
  go_wp2_with fail
  go_ret
  exact AddPost.same HB.out HS.out HK2.out

set_option maxRecDepth 100000 in
set_option maxHeartbeats 3200000 in
theorem add_text (r T m : Nat) (vD : Value) (s : SrcT) (vA vE vF : Value) (l : Bs) (w : World) (hg : Gnd w) (hl : l.length ≤ 100000) (hb : Blk w r 71 (rdC vD m s vA vE vF true)) (hs : SrcRow w T s vA vE vF) (hT : r < T) (hTs : T ≤ w.heap.size)
    (hcut : before 61 l < l.length) (ha : (trimL (l.take (before 61 l)) == [97, 117, 116, 104, 111, 114]) = false) (he : (trimL (l.take (before 61 l)) == [101, 100, 105, 116, 111, 114]) = false) (hnm : nameB (trimL (l.take (before 61 l))) = true) (hv0 : trimL (l.drop (before 61 l + 1)) = []) :
    Calls Tryz.prog 87 #[.pointer (some ⟨r, 0, none⟩), .string (bs l)] w (AddPost r T m vD (17) (s) w) := by
  have HG := Lib.hid hg
  have HB := Lib.hid hb
  have HS := Lib.hid hs
  have HC := Lib.hid (cut_any l 61 w hg (by omega))
  rw [if_pos hcut] at HC
  have hkl := trimL_le (l.take (before 61 l))
  have hvl := trimL_le (l.drop (before 61 l + 1))
  have htk : (l.take (before 61 l)).length ≤ 100000 := by simp; omega
  have htv : (l.drop (before 61 l + 1)).length ≤ 100000 := by simp; omega
  have HTK := Lib.hid (fun w => trim_any (l.take (before 61 l)) w (by omega))
  have HTV := Lib.hid (fun w => trim_any (l.drop (before 61 l + 1)) w (by omega))
  generalize trimL (l.take (before 61 l)) = k at *
  generalize trimL (l.drop (before 61 l + 1)) = v at *
  generalize l.take (before 61 l) = lk at *
  generalize l.drop (before 61 l + 1) = lv at *
  clear hg hb hs hcut
  subst hv0
  go_enter Tryz.func87, Tryz.ntmps87
  go_wp2_with fail
  refine HC.out.mono ?_
  rintro e w1 ⟨rfl, n1, rfl⟩
  have HK1 := Lib.hid (kept_drewN w n1)
  generalize w.drewN n1 = w1 at *
  go_wp2_with fail
  refine (HTK.out _).mono ?_
  rintro e w' ⟨rfl, rfl⟩
  go_wp2_with fail
  refine (HTV.out _).mono ?_
  rintro e w' ⟨rfl, rfl⟩
  go_wp2_with fail
  refine (isName_any k _ (by omega)).mono ?_
  rw [hnm]
  rintro e w2 ⟨rfl, hk2⟩
  have HK2 := Lib.hid (HK1.out.trans hk2)
  clear hk2
  go_wp2_with fail
  go_ret
  exact AddPost.same HB.out HS.out HK2.out

set_option maxRecDepth 100000 in
set_option maxHeartbeats 3200000 in
theorem add_twice (r T m : Nat) (vD : Value) (s : SrcT) (vA vE vF : Value) (l : Bs) (w : World) (hg : Gnd w) (hl : l.length ≤ 100000) (hb : Blk w r 71 (rdC vD m s vA vE vF true)) (hs : SrcRow w T s vA vE vF) (hT : r < T) (hTs : T ≤ w.heap.size)
    (hcut : before 61 l < l.length) (ha : (trimL (l.take (before 61 l)) == [97, 117, 116, 104, 111, 114]) = false) (he : (trimL (l.take (before 61 l)) == [101, 100, 105, 116, 111, 114]) = false) (hnm : nameB (trimL (l.take (before 61 l))) = true) (hv0 : ¬ trimL (l.drop (before 61 l + 1)) = []) (hv1 : (trimL (l.drop (before 61 l + 1))).isEmpty = false) (hmax : s.fields.length ≤ 1000000) (hhas : hasB s.fields (trimL (l.take (before 61 l))) = true) :
    Calls Tryz.prog 87 #[.pointer (some ⟨r, 0, none⟩), .string (bs l)] w (AddPost r T m vD (7) (s) w) := by
  have HG := Lib.hid hg
  have HB := Lib.hid hb
  have HS := Lib.hid hs
  have HC := Lib.hid (cut_any l 61 w hg (by omega))
  rw [if_pos hcut] at HC
  have hkl := trimL_le (l.take (before 61 l))
  have hvl := trimL_le (l.drop (before 61 l + 1))
  have htk : (l.take (before 61 l)).length ≤ 100000 := by simp; omega
  have htv : (l.drop (before 61 l + 1)).length ≤ 100000 := by simp; omega
  have HTK := Lib.hid (fun w => trim_any (l.take (before 61 l)) w (by omega))
  have HTV := Lib.hid (fun w => trim_any (l.drop (before 61 l + 1)) w (by omega))
  generalize trimL (l.take (before 61 l)) = k at *
  generalize trimL (l.drop (before 61 l + 1)) = v at *
  generalize l.take (before 61 l) = lk at *
  generalize l.drop (before 61 l + 1) = lv at *
  clear hg hb hs hcut
  go_enter Tryz.func87, Tryz.ntmps87
  go_wp2_with fail
  refine HC.out.mono ?_
  rintro e w1 ⟨rfl, n1, rfl⟩
  have HK1 := Lib.hid (kept_drewN w n1)
  generalize w.drewN n1 = w1 at *
  go_wp2_with fail
  refine (HTK.out _).mono ?_
  rintro e w' ⟨rfl, rfl⟩
  go_wp2_with fail
  refine (HTV.out _).mono ?_
  rintro e w' ⟨rfl, rfl⟩
  go_wp2_with fail
  refine (isName_any k _ (by omega)).mono ?_
  rw [hnm]
  rintro e w2 ⟨rfl, hk2⟩
  have HK2 := Lib.hid (HK1.out.trans hk2)
  clear hk2
  have HB2 := Lib.hid (HB.out.kept HK2.out)
  have hr2 := HB2.out.lt
  obtain ⟨fa, fc, hfv, _⟩ := own_cap HS.out.f
  have cF : w2.cell? ⟨r, 6, none⟩ = some (.slice fa s.fields.length fc) := by rw [← hfv]; exact HB2.out.cell 6 _ rfl
  have HFV := Lib.hid hfv
  clear hfv
  go_wp2_with fail
  refine (hasField_any _ s.fields k _ (by rw [← HFV.out]; exact (Prs.own HS.out.f).kept HK2.out) (by omega)).mono ?_
  rw [hhas]
  rintro e w3 ⟨rfl, hk3⟩
  have HK3 := Lib.hid (HK2.out.trans hk3)
  clear hk3 cF
  go_wp2_with fail
  go_ret
  exact AddPost.same HB.out HS.out HK3.out

set_option maxRecDepth 100000 in
set_option maxHeartbeats 3200000 in
theorem add_limit (r T m : Nat) (vD : Value) (s : SrcT) (vA vE vF : Value) (l : Bs) (w : World) (hg : Gnd w) (hl : l.length ≤ 100000) (hb : Blk w r 71 (rdC vD m s vA vE vF true)) (hs : SrcRow w T s vA vE vF) (hT : r < T) (hTs : T ≤ w.heap.size)
    (hcut : before 61 l < l.length) (ha : (trimL (l.take (before 61 l)) == [97, 117, 116, 104, 111, 114]) = false) (he : (trimL (l.take (before 61 l)) == [101, 100, 105, 116, 111, 114]) = false) (hnm : nameB (trimL (l.take (before 61 l))) = true) (hv0 : ¬ trimL (l.drop (before 61 l + 1)) = []) (hv1 : (trimL (l.drop (before 61 l + 1))).isEmpty = false) (hmax : s.fields.length ≤ 1000000) (hhas : hasB s.fields (trimL (l.take (before 61 l))) = false) (h24 : 24 ≤ s.fields.length) :
    Calls Tryz.prog 87 #[.pointer (some ⟨r, 0, none⟩), .string (bs l)] w (AddPost r T m vD (3) (s) w) := by
  have HG := Lib.hid hg
  have HB := Lib.hid hb
  have HS := Lib.hid hs
  have HC := Lib.hid (cut_any l 61 w hg (by omega))
  rw [if_pos hcut] at HC
  have hkl := trimL_le (l.take (before 61 l))
  have hvl := trimL_le (l.drop (before 61 l + 1))
  have htk : (l.take (before 61 l)).length ≤ 100000 := by simp; omega
  have htv : (l.drop (before 61 l + 1)).length ≤ 100000 := by simp; omega
  have HTK := Lib.hid (fun w => trim_any (l.take (before 61 l)) w (by omega))
  have HTV := Lib.hid (fun w => trim_any (l.drop (before 61 l + 1)) w (by omega))
  generalize trimL (l.take (before 61 l)) = k at *
  generalize trimL (l.drop (before 61 l + 1)) = v at *
  generalize l.take (before 61 l) = lk at *
  generalize l.drop (before 61 l + 1) = lv at *
  clear hg hb hs hcut
  go_enter Tryz.func87, Tryz.ntmps87
  go_wp2_with fail
  refine HC.out.mono ?_
  rintro e w1 ⟨rfl, n1, rfl⟩
  have HK1 := Lib.hid (kept_drewN w n1)
  generalize w.drewN n1 = w1 at *
  go_wp2_with fail
  refine (HTK.out _).mono ?_
  rintro e w' ⟨rfl, rfl⟩
  go_wp2_with fail
  refine (HTV.out _).mono ?_
  rintro e w' ⟨rfl, rfl⟩
  go_wp2_with fail
  refine (isName_any k _ (by omega)).mono ?_
  rw [hnm]
  rintro e w2 ⟨rfl, hk2⟩
  have HK2 := Lib.hid (HK1.out.trans hk2)
  clear hk2
  have HB2 := Lib.hid (HB.out.kept HK2.out)
  have hr2 := HB2.out.lt
  obtain ⟨fa, fc, hfv, _⟩ := own_cap HS.out.f
  have cF : w2.cell? ⟨r, 6, none⟩ = some (.slice fa s.fields.length fc) := by rw [← hfv]; exact HB2.out.cell 6 _ rfl
  have HFV := Lib.hid hfv
  clear hfv
  go_wp2_with fail
  refine (hasField_any _ s.fields k _ (by rw [← HFV.out]; exact (Prs.own HS.out.f).kept HK2.out) (by omega)).mono ?_
  rw [hhas]
  rintro e w3 ⟨rfl, hk3⟩
  have HK3 := Lib.hid (HK2.out.trans hk3)
  clear hk3 cF
  have HB3 := Lib.hid (HB.out.kept HK3.out)
  have hr3 := HB3.out.lt
  have cF : w3.cell? ⟨r, 6, none⟩ = some (.slice fa s.fields.length fc) := by rw [← HFV.out]; exact HB3.out.cell 6 _ rfl
  go_wp2_with fail
  go_ret
  exact AddPost.same HB.out HS.out HK3.out

set_option maxRecDepth 100000 in
set_option maxHeartbeats 3200000 in
theorem add_field (r T m : Nat) (vD : Value) (s : SrcT) (vA vE vF : Value) (l : Bs) (w : World) (hg : Gnd w) (hl : l.length ≤ 100000) (hb : Blk w r 71 (rdC vD m s vA vE vF true)) (hs : SrcRow w T s vA vE vF) (hT : r < T) (hTs : T ≤ w.heap.size)
    (hcut : before 61 l < l.length) (ha : (trimL (l.take (before 61 l)) == [97, 117, 116, 104, 111, 114]) = false) (he : (trimL (l.take (before 61 l)) == [101, 100, 105, 116, 111, 114]) = false) (hnm : nameB (trimL (l.take (before 61 l))) = true) (hv0 : ¬ trimL (l.drop (before 61 l + 1)) = []) (hv1 : (trimL (l.drop (before 61 l + 1))).isEmpty = false) (hmax : s.fields.length ≤ 1000000) (hhas : hasB s.fields (trimL (l.take (before 61 l))) = false) (h24 : s.fields.length < 24) :
    Calls Tryz.prog 87 #[.pointer (some ⟨r, 0, none⟩), .string (bs l)] w (AddPost r T m vD (0) ({ s with fields := s.fields ++ [(trimL (l.take (before 61 l)), trimL (l.drop (before 61 l + 1)))] }) w) := by
  have HG := Lib.hid hg
  have HB := Lib.hid hb
  have HS := Lib.hid hs
  have HC := Lib.hid (cut_any l 61 w hg (by omega))
  obtain ⟨i0, hi, hz0, hz1, hz2⟩ := info_parts Tryz.infoPair
  rw [if_pos hcut] at HC
  have hkl := trimL_le (l.take (before 61 l))
  have hvl := trimL_le (l.drop (before 61 l + 1))
  have htk : (l.take (before 61 l)).length ≤ 100000 := by simp; omega
  have htv : (l.drop (before 61 l + 1)).length ≤ 100000 := by simp; omega
  have HTK := Lib.hid (fun w => trim_any (l.take (before 61 l)) w (by omega))
  have HTV := Lib.hid (fun w => trim_any (l.drop (before 61 l + 1)) w (by omega))
  generalize trimL (l.take (before 61 l)) = k at *
  generalize trimL (l.drop (before 61 l + 1)) = v at *
  generalize l.take (before 61 l) = lk at *
  generalize l.drop (before 61 l + 1) = lv at *
  clear hg hb hs hcut
  go_enter Tryz.func87, Tryz.ntmps87
  go_wp2_with fail
  refine HC.out.mono ?_
  rintro e w1 ⟨rfl, n1, rfl⟩
  have HK1 := Lib.hid (kept_drewN w n1)
  generalize w.drewN n1 = w1 at *
  go_wp2_with fail
  refine (HTK.out _).mono ?_
  rintro e w' ⟨rfl, rfl⟩
  go_wp2_with fail
  refine (HTV.out _).mono ?_
  rintro e w' ⟨rfl, rfl⟩
  go_wp2_with fail
  refine (isName_any k _ (by omega)).mono ?_
  rw [hnm]
  rintro e w2 ⟨rfl, hk2⟩
  have HK2 := Lib.hid (HK1.out.trans hk2)
  clear hk2
  have HB2 := Lib.hid (HB.out.kept HK2.out)
  have hr2 := HB2.out.lt
  obtain ⟨fa, fc, hfv, _⟩ := own_cap HS.out.f
  have cF : w2.cell? ⟨r, 6, none⟩ = some (.slice fa s.fields.length fc) := by rw [← hfv]; exact HB2.out.cell 6 _ rfl
  have HFV := Lib.hid hfv
  clear hfv
  go_wp2_with fail
  refine (hasField_any _ s.fields k _ (by rw [← HFV.out]; exact (Prs.own HS.out.f).kept HK2.out) (by omega)).mono ?_
  rw [hhas]
  rintro e w3 ⟨rfl, hk3⟩
  have HK3 := Lib.hid (HK2.out.trans hk3)
  clear hk3 cF
  have HB3 := Lib.hid (HB.out.kept HK3.out)
  have hr3 := HB3.out.lt
  have cF : w3.cell? ⟨r, 6, none⟩ = some (.slice fa s.fields.length fc) := by rw [← HFV.out]; exact HB3.out.cell 6 _ rfl
  have f6 : w3.frozen? ⟨r, 6, none⟩ = false := HB3.out.free 6
  have hown := own_kept HS.out.f HK3.out
  rw [HFV.out] at hown
  have hT3 : T ≤ w3.heap.size := by have := HK3.out.size; omega
  go_wp2_with (at_builtin; refine wpList_append_lies _ rfl _ _ 38 rfl T 62 i0 _ 2 32 Tryz.underlying38 hi hz0 hz1 hz2 rfl (by decide) _ s.fields.length (pairC s.fields) rfl (hown.alloc _) ⟨w3.heap.size, 0, none⟩ 1 1 [.string (bs k), .string (bs v)] rfl rfl (new_cells _ #[.string (bs k), .string (bs v)] _ _ (by simp)) (by simp [Value.oneCell']) (by omega) (by unfold maxLen; omega) (by omega) (by simp; omega) (w3.heap.size + 1) (by simp) ?_)
  intro g cap w4 hown4 hgrow hat hlt
  have hne : some r ≠ (Value.slice fa s.fields.length fc).ownBlock := fun q => by have := (hown.lt r q.symm).1; omega
  have HB4 := Lib.hid (show Blk w4 r 71 (rdC vD m s vA vE vF true) from (hgrow.block r (by simp; omega) hne).trans (HB3.out.alloc _))
  have c4 : w4.cell? ⟨r, 6, none⟩ = some vF := HB4.out.cell 6 _ rfl
  have f4 : w4.frozen? ⟨r, 6, none⟩ = false := HB4.out.free 6
  have z4 := HB4.out.lt
  have HP : Hid (Pushed r 6 T 62 2 (s.fields.length + 1) (pairC (s.fields ++ [(k, v)])) vF w3 (w4.setCell ⟨r, 6, none⟩ (.slice (some ⟨g, 0, none⟩) (s.fields.length + 1) cap))) := by
    rw [HFV.out]
    refine pushed_of (kept_alloc w3 _) hgrow (by rw [pairC_snoc]; exact hown4) ?_ (fun k h => (hown.lt k h).1) hT hr3 (by omega)
    rcases hat with h | h
    · exact .inl h
    · exact .inr (by omega)
  clear hgrow hown4 hat hown cF f6
  go_wp2_with fail
  go_ret
  exact AddPost.field HB.out HS.out HK3.out hT hTs HP.out

end Go.Proofs.YteflhlbgbgamnaaGreatDoor

/- A map of keys that a call makes: insertion and look-up; (*reader).add whole. No condition but lengths. -/
set_option linter.all false
namespace Go.Proofs.YteflhlbgbgamnaaGreatDoor
open Go.RowKit

theorem add_any (r T m : Nat) (vD : Value) (s : SrcT) (vA vE vF : Value) (l : Bs) (w : World) (hg : Gnd w) (hl : l.length ≤ 100000) (hb : Blk w r 71 (rdC vD m s vA vE vF true)) (hs : SrcRow w T s vA vE vF) (hT : r < T) (hTs : T ≤ w.heap.size)
    (hA : s.author.length ≤ 100) (hE : s.editor.length ≤ 100) (hF : s.fields.length ≤ 100) :
    Calls Tryz.prog 87 #[.pointer (some ⟨r, 0, none⟩), .string (bs l)] w (AddPost r T m vD (addS s l).1 (addS s l).2 w) := by
  unfold addS
  by_cases hcut : before 61 l < l.length
  · rw [if_pos hcut]
    by_cases hk : trimL (l.take (before 61 l)) = kAuthor
    · rw [if_pos hk]
      by_cases hn : (parseR (trimL (l.drop (before 61 l + 1)))).1 = 0
      · rw [if_neg (by simpa using hn)]
        by_cases h32 : 32 ≤ s.author.length
        · rw [if_pos h32]; exact add_author_full r T m vD s vA vE vF l w hg hl hb hs hT hTs hcut hk hn h32 (by omega)
        · rw [if_neg h32]; exact add_author_ok r T m vD s vA vE vF l w hg hl hb hs hT hTs hcut hk hn (by omega)
      · rw [if_pos hn]; exact add_author_no r T m vD s vA vE vF l w hg hl hb hs hT hTs hcut hk hn
    rw [if_neg hk]
    by_cases hk2 : trimL (l.take (before 61 l)) = kEditor
    · rw [if_pos hk2]
      by_cases hn : (parseR (trimL (l.drop (before 61 l + 1)))).1 = 0
      · rw [if_neg (by simpa using hn)]
        by_cases h32 : 32 ≤ s.editor.length
        · rw [if_pos h32]; exact add_editor_full r T m vD s vA vE vF l w hg hl hb hs hT hTs hcut hk2 hn h32 (by omega)
        · rw [if_neg h32]; exact add_editor_ok r T m vD s vA vE vF l w hg hl hb hs hT hTs hcut hk2 hn (by omega)
      · rw [if_pos hn]; exact add_editor_no r T m vD s vA vE vF l w hg hl hb hs hT hTs hcut hk2 hn
    rw [if_neg hk2]
    have ha : (trimL (l.take (before 61 l)) == [97, 117, 116, 104, 111, 114]) = false := by rw [beq_eq_false_iff_ne]; exact hk
    have he : (trimL (l.take (before 61 l)) == [101, 100, 105, 116, 111, 114]) = false := by rw [beq_eq_false_iff_ne]; exact hk2
    cases hnm : nameB (trimL (l.take (before 61 l)))
    · rw [if_pos rfl]; exact add_name r T m vD s vA vE vF l w hg hl hb hs hT hTs hcut ha he hnm
    rw [if_neg (by simp)]
    by_cases hv0 : trimL (l.drop (before 61 l + 1)) = []
    · rw [if_pos hv0]; exact add_text r T m vD s vA vE vF l w hg hl hb hs hT hTs hcut ha he hnm hv0
    rw [if_neg hv0]
    cases hhas : hasB s.fields (trimL (l.take (before 61 l)))
    · rw [if_neg (by simp)]
      by_cases h24 : 24 ≤ s.fields.length
      · rw [if_pos h24]; exact add_limit r T m vD s vA vE vF l w hg hl hb hs hT hTs hcut ha he hnm hv0 (by simpa using hv0) (by omega) hhas h24
      · rw [if_neg h24]; exact add_field r T m vD s vA vE vF l w hg hl hb hs hT hTs hcut ha he hnm hv0 (by simpa using hv0) (by omega) hhas (by omega)
    · rw [if_pos rfl]; exact add_twice r T m vD s vA vE vF l w hg hl hb hs hT hTs hcut ha he hnm hv0 (by simpa using hv0) (by omega) hhas
  · rw [if_neg hcut]; exact add_form r T m vD s vA vE vF l w hg hl hb hs hT hTs hcut

def entK (k : Bs) (i : Nat) : MapEntry := { key := .string (bs k), val := .bool true, born := i }
def entsK (ks : List Bs) : Array MapEntry := (ks.mapIdx fun i k => entK k i).toArray
/-- Block m is the map of the keys ks. -/
def MapK (w : World) (m : Nat) (ks : List Bs) : Prop := w.heap[m]? = some (.map (entsK ks) ks.length)
/-- The world with another map of keys in block m. -/
def putK (w : World) (m : Nat) (ks : List Bs) : World := { w with heap := w.heap.setIfInBounds m (.map (entsK ks) ks.length) }
theorem MapK.lt {w : World} {m : Nat} {ks : List Bs} (h : MapK w m ks) : m < w.heap.size := by
  rcases Nat.lt_or_ge m w.heap.size with q | q
  · exact q
  · unfold MapK at h; rw [Array.getElem?_eq_none q] at h; cases h
theorem MapK.only {S : Nat → Prop} {w w' : World} {m : Nat} {ks : List Bs} (h : MapK w m ks) (k : Only S w w') (hs : ¬ S m) : MapK w' m ks := by
  unfold MapK at h ⊢; rw [k.block m (MapK.lt h) hs]; exact h
theorem putK_map (w : World) (m : Nat) (ks : List Bs) (hm : m < w.heap.size) : MapK (putK w m ks) m ks := by
  unfold MapK putK; simp [hm]
theorem putK_only (w : World) (m : Nat) (ks : List Bs) : Only (fun i => i = m) w (putK w m ks) :=
  ⟨rfl, rfl, rfl, by simp [putK], fun k hk hs => by simp [putK, Array.getElem?_setIfInBounds, Ne.symm hs]⟩
theorem putK_size (w : World) (m : Nat) (ks : List Bs) : (putK w m ks).heap.size = w.heap.size := by simp [putK]
theorem entsK_snoc (ks : List Bs) (k : Bs) : entsK (ks ++ [k]) = (entsK ks).push (entK k ks.length) := by
  unfold entsK; rw [List.mapIdx_append]; simp
theorem findK_none (k : Bs) : ∀ (l : List Bs) (i j : Nat), k ∉ l → Instr.findNow .string (.string (bs k)) (l.mapIdx fun i' x => entK x (i' + i)) j = some none
  | [], _, _, _ => rfl
  | x :: l, i, j, h => by
    have hx : (bs k == bs x) = false := by rw [bs_beq, beq_eq_false_iff_ne]; exact fun e => h (by simp [e])
    rw [List.mapIdx_cons]
    unfold Instr.findNow
    simp only [entK, Instr.sameNow, hx]
    have := findK_none k l (i + 1) (j + 1) (fun e => h (by simp [e]))
    simp only [entK] at this
    rw [← this]
    congr 1
    apply List.ext_getElem?
    intro m
    simp [List.getElem?_mapIdx]
    cases l[m]? <;> simp; omega
theorem findK_some (k : Bs) : ∀ (l : List Bs) (i j : Nat), k ∈ l → ∃ m, Instr.findNow .string (.string (bs k)) (l.mapIdx fun i' x => entK x (i' + i)) j = some (some (m, .bool true))
  | [], _, _, h => by cases h
  | x :: l, i, j, h => by
    rw [List.mapIdx_cons]
    unfold Instr.findNow
    by_cases q : x = k
    · have hx : (bs k == bs x) = true := by rw [bs_beq, beq_iff_eq]; exact q.symm
      simp only [entK, Instr.sameNow, hx]
      exact ⟨_, rfl⟩
    · have hx : (bs k == bs x) = false := by rw [bs_beq, beq_eq_false_iff_ne]; exact fun e => q e.symm
      have hl : k ∈ l := by rcases List.mem_cons.1 h with e | e; exact absurd e.symm q; exact e
      simp only [entK, Instr.sameNow, hx]
      obtain ⟨m, hm⟩ := findK_some k l (i + 1) (j + 1) hl
      refine ⟨m, ?_⟩
      simp only [entK] at hm
      rw [← hm]
      congr 1
      apply List.ext_getElem?
      intro m
      simp [List.getElem?_mapIdx]
      cases l[m]? <;> simp; omega
theorem entsK_list (l : List Bs) : (entsK l).toList = l.mapIdx fun i' x => entK x (i' + 0) := by simp [entsK]
theorem runK_none (w : World) (l : List Bs) (k : Bs) (hk : k ∉ l) : (Instr.findKey 9 (.string (bs k)) (entsK l).toList).run Tryz.prog w = .ok none w := by
  unfold Instr.findKey
  simp only [Sem.run_bind, run_underlying Tryz.underlying9, Result.andThen, entsK_list, findK_none k l 0 0 hk]
  simp [Sem.run_pure]
theorem runK_some (w : World) (l : List Bs) (k : Bs) (hk : k ∈ l) : ∃ m, (Instr.findKey 9 (.string (bs k)) (entsK l).toList).run Tryz.prog w = .ok (some (m, .bool true)) w := by
  obtain ⟨m, hm⟩ := findK_some k l 0 0 hk
  refine ⟨m, ?_⟩
  unfold Instr.findKey
  simp only [Sem.run_bind, run_underlying Tryz.underlying9, Result.andThen, entsK_list, hm]
  simp [Sem.run_pure]
theorem zero_bool (w : World) : (zeroValue 4).run Tryz.prog w = .ok (.bool false) w := by kernel_rfl
theorem lookK (w : World) (m : Nat) (ks : List Bs) (k : Bs) (h : MapK w m ks) : (Instr.lookup 69 (.map (some m)) (.string (bs k)) false).run Tryz.prog w = .ok (.bool (ks.contains k)) w := by
  have hu : Tryz.prog.underlying 69 = some (.map 9 4) := Tryz.underlying69
  unfold MapK at h
  unfold Instr.lookup
  simp only [Sem.run_bind, run_underlying hu, Result.andThen]
  by_cases hk : k ∈ ks
  · obtain ⟨j, hf⟩ := runK_some w ks k hk
    have hc : ks.contains k = true := by simpa using hk
    simp only [getObj, Sem.run_bind, Sem.run, h, Result.andThen, Sem.run_pure, run_check, hf, hc]
    simp [Sem.run_pure]
  · have hf := runK_none w ks k hk
    have hc : ks.contains k = false := by simpa using hk
    simp only [getObj, Sem.run_bind, Sem.run, h, Result.andThen, Sem.run_pure, run_check, hf, hc, zero_bool]
    simp [Sem.run_pure]
theorem insK (w : World) (m : Nat) (ks : List Bs) (k : Bs) (h : MapK w m ks) (hk : k ∉ ks) : (Instr.mapUpdate 69 (.map (some m)) (.string (bs k)) (.bool true)).run Tryz.prog w = .ok () (putK w m (ks ++ [k])) := by
  have hu : Tryz.prog.underlying 69 = some (.map 9 4) := Tryz.underlying69
  unfold MapK at h
  unfold Instr.mapUpdate
  simp only [Sem.run_bind, run_underlying hu, Result.andThen]
  simp only [getObj, Sem.run_bind, Sem.run, h, Result.andThen, Sem.run_pure, run_check, runK_none _ ks k hk, setObj]
  refine congrArg (Result.ok ()) ?_
  unfold putK
  rw [entsK_snoc]
  simp [entK]
end Go.Proofs.YteflhlbgbgamnaaGreatDoor
