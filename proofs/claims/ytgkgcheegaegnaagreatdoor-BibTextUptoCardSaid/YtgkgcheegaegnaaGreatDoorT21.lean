/- (*reader).add of package bib. Conditions: lengths. -/
import Derived.Test.YtgkgcheegaegnaaGreatDoorT20

set_option linter.all false
namespace Go.Proofs.YtgkgcheegaegnaaGreatDoor
open Go.RowKit

/-- A source: key, type, authors, editors, fields. -/
structure SrcT where
  key : Bs
  type : Bs
  author : List P4
  editor : List P4
  fields : List Pr
def kAuthor : Bs := [97, 117, 116, 104, 111, 114]
def kEditor : Bs := [101, 100, 105, 116, 111, 114]
/-- A line in a source: the error, and the source. -/
def addS (s : SrcT) (l : Bs) : Int × SrcT :=
  if before 61 l < l.length then
    if trimL (l.take (before 61 l)) = kAuthor then
      if (parseR (trimL (l.drop (before 61 l + 1)))).1 ≠ 0 then ((parseR (trimL (l.drop (before 61 l + 1)))).1, s)
      else if 32 ≤ s.author.length then (3, s) else (0, { s with author := s.author ++ [(parseR (trimL (l.drop (before 61 l + 1)))).2] })
    else if trimL (l.take (before 61 l)) = kEditor then
      if (parseR (trimL (l.drop (before 61 l + 1)))).1 ≠ 0 then ((parseR (trimL (l.drop (before 61 l + 1)))).1, s)
      else if 32 ≤ s.editor.length then (3, s) else (0, { s with editor := s.editor ++ [(parseR (trimL (l.drop (before 61 l + 1)))).2] })
    else if nameB (trimL (l.take (before 61 l))) = false then (6, s)
    else if trimL (l.drop (before 61 l + 1)) = [] then (17, s)
    else if hasB s.fields (trimL (l.take (before 61 l))) = true then (7, s)
    else if 24 ≤ s.fields.length then (3, s)
    else (0, { s with fields := s.fields ++ [(trimL (l.take (before 61 l)), trimL (l.drop (before 61 l + 1)))] })
  else (5, s)
/-- The cells of a reader. -/
def rdC (vD : Value) (m : Nat) (s : SrcT) (vA vE vF : Value) (ins : Bool) : Array Value := #[vD, .map (some m), .string (bs s.key), .string (bs s.type), vA, vE, vF, .bool ins]
/-- The rows of the source that is being read: each the call's own, from block T on, no two in one block. -/
structure SrcRow (w : World) (T : Nat) (s : SrcT) (vA vE vF : Value) : Prop where
  a : w.ownsRow T 36 4 vA s.author.length (persC s.author)
  e : w.ownsRow T 36 4 vE s.editor.length (persC s.editor)
  f : w.ownsRow T 47 2 vF s.fields.length (pairC s.fields)
  ae : ∀ g, vA.ownBlock = some g → vE.ownBlock ≠ some g
  af : ∀ g, vA.ownBlock = some g → vF.ownBlock ≠ some g
  ef : ∀ g, vE.ownBlock = some g → vF.ownBlock ≠ some g
theorem SrcRow.kept {w w' : World} {T : Nat} {s : SrcT} {vA vE vF : Value} (h : SrcRow w T s vA vE vF) (k : Kept w w') : SrcRow w' T s vA vE vF :=
  ⟨own_kept h.a k, own_kept h.e k, own_kept h.f k, h.ae, h.af, h.ef⟩
/-- What a reading of a line in a source leaves. -/
def AddPost (r T m : Nat) (vD : Value) (n : Int) (s' : SrcT) (w : World) (e : Ending) (w' : World) : Prop :=
  ∃ vA vE vF, e = .returned (.int .i64 n) ∧ Blk w' r 55 (rdC vD m s' vA vE vF true) ∧ SrcRow w' T s' vA vE vF ∧ Only (fun i => T ≤ i ∨ i = r) w w'
theorem AddPost.same {r T m : Nat} {vD : Value} {n : Int} {s : SrcT} {vA vE vF : Value} {w w' : World} (hb : Blk w r 55 (rdC vD m s vA vE vF true)) (hs : SrcRow w T s vA vE vF) (k : Kept w w') : AddPost r T m vD n s w (.returned (.int .i64 n)) w' :=
  ⟨vA, vE, vF, rfl, hb.kept k, hs.kept k, Only.of_kept k⟩
theorem AddPost.author {r T m : Nat} {vD : Value} {s : SrcT} {q : P4} {vA vE vF : Value} {w w1 w' : World} (hb : Blk w r 55 (rdC vD m s vA vE vF true)) (hs : SrcRow w T s vA vE vF) (k : Kept w w1) (hT : r < T) (hTs : T ≤ w.heap.size)
    (p : Pushed r 4 T 36 4 (s.author.length + 1) (persC (s.author ++ [q])) vA w1 w') : AddPost r T m vD 0 { s with author := s.author ++ [q] } w (.returned (.int .i64 0)) w' := by
  obtain ⟨⟨g, cap, hown, hat, hblk⟩, ho⟩ := p
  have h1 := hs.kept k
  have hlA := h1.a.lt
  have hlE := h1.e.lt
  have hlF := h1.f.lt
  refine ⟨.slice (some ⟨g, 0, none⟩) (s.author.length + 1) cap, vE, vF, rfl, ?_, ⟨?_, ?_, ?_, ?_, ?_, hs.ef⟩, ?_⟩
  · have := hblk _ _ (hb.kept k)
    exact this
  · simpa using hown
  · exact ho.own h1.e (fun g' h q => by
      rcases q with q | q
      · exact hs.ae g' q.symm h
      · have := (hlE g' h).1; omega)
  · exact ho.own h1.f (fun g' h q => by
      rcases q with q | q
      · exact hs.af g' q.symm h
      · have := (hlF g' h).1; omega)
  · intro g' h
    simp [Value.ownBlock] at h
    subst h
    intro q
    rcases hat with h | h
    · exact hs.ae g h q
    · have := (hlE g q).2; omega
  · intro g' h
    simp [Value.ownBlock] at h
    subst h
    intro q
    rcases hat with h | h
    · exact hs.af g h q
    · have := (hlF g q).2; omega
  · refine (Only.of_kept k).trans (ho.mono (fun i _ h => ?_))
    rcases h with h | h
    · exact .inl (hlA i h.symm).1
    · exact .inr h
theorem AddPost.editor {r T m : Nat} {vD : Value} {s : SrcT} {q : P4} {vA vE vF : Value} {w w1 w' : World} (hb : Blk w r 55 (rdC vD m s vA vE vF true)) (hs : SrcRow w T s vA vE vF) (k : Kept w w1) (hT : r < T) (hTs : T ≤ w.heap.size)
    (p : Pushed r 5 T 36 4 (s.editor.length + 1) (persC (s.editor ++ [q])) vE w1 w') : AddPost r T m vD 0 { s with editor := s.editor ++ [q] } w (.returned (.int .i64 0)) w' := by
  obtain ⟨⟨g, cap, hown, hat, hblk⟩, ho⟩ := p
  have h1 := hs.kept k
  have hlA := h1.a.lt
  have hlE := h1.e.lt
  have hlF := h1.f.lt
  refine ⟨vA, .slice (some ⟨g, 0, none⟩) (s.editor.length + 1) cap, vF, rfl, ?_, ⟨?_, ?_, ?_, ?_, hs.af, ?_⟩, ?_⟩
  · have := hblk _ _ (hb.kept k)
    exact this
  · exact ho.own h1.a (fun g' h q => by
      rcases q with q | q
      · exact hs.ae g' h q.symm
      · have := (hlA g' h).1; omega)
  · simpa using hown
  · exact ho.own h1.f (fun g' h q => by
      rcases q with q | q
      · exact hs.ef g' q.symm h
      · have := (hlF g' h).1; omega)
  · intro g' h q
    simp [Value.ownBlock] at q
    subst q
    rcases hat with h2 | h2
    · exact hs.ae g h h2
    · have := (hlA g h).2; omega
  · intro g' h
    simp [Value.ownBlock] at h
    subst h
    intro q
    rcases hat with h | h
    · exact hs.ef g h q
    · have := (hlF g q).2; omega
  · refine (Only.of_kept k).trans (ho.mono (fun i _ h => ?_))
    rcases h with h | h
    · exact .inl (hlE i h.symm).1
    · exact .inr h
theorem AddPost.field {r T m : Nat} {vD : Value} {s : SrcT} {q : Pr} {vA vE vF : Value} {w w1 w' : World} (hb : Blk w r 55 (rdC vD m s vA vE vF true)) (hs : SrcRow w T s vA vE vF) (k : Kept w w1) (hT : r < T) (hTs : T ≤ w.heap.size)
    (p : Pushed r 6 T 47 2 (s.fields.length + 1) (pairC (s.fields ++ [q])) vF w1 w') : AddPost r T m vD 0 { s with fields := s.fields ++ [q] } w (.returned (.int .i64 0)) w' := by
  obtain ⟨⟨g, cap, hown, hat, hblk⟩, ho⟩ := p
  have h1 := hs.kept k
  have hlA := h1.a.lt
  have hlE := h1.e.lt
  have hlF := h1.f.lt
  refine ⟨vA, vE, .slice (some ⟨g, 0, none⟩) (s.fields.length + 1) cap, rfl, ?_, ⟨?_, ?_, ?_, hs.ae, ?_, ?_⟩, ?_⟩
  · have := hblk _ _ (hb.kept k)
    exact this
  · exact ho.own h1.a (fun g' h q => by
      rcases q with q | q
      · exact hs.af g' h q.symm
      · have := (hlA g' h).1; omega)
  · exact ho.own h1.e (fun g' h q => by
      rcases q with q | q
      · exact hs.ef g' h q.symm
      · have := (hlE g' h).1; omega)
  · simpa using hown
  · intro g' h q
    simp [Value.ownBlock] at q
    subst q
    rcases hat with h2 | h2
    · exact hs.af g h h2
    · have := (hlA g h).2; omega
  · intro g' h q
    simp [Value.ownBlock] at q
    subst q
    rcases hat with h2 | h2
    · exact hs.ef g h h2
    · have := (hlE g h).2; omega
  · refine (Only.of_kept k).trans (ho.mono (fun i _ h => ?_))
    rcases h with h | h
    · exact .inl (hlF i h.symm).1
    · exact .inr h
end Go.Proofs.YtgkgcheegaegnaaGreatDoor

/- (*reader).add of package bib: the walks. Conditions: lengths. -/
set_option linter.all false
namespace Go.Proofs.YtgkgcheegaegnaaGreatDoor
open Go.RowKit

theorem trimR_le (t : Bs) : (trimR t).length ≤ t.length := by
  unfold trimR
  have : ∀ l : Bs, (l.dropWhile (· == 32)).length ≤ l.length := by
    intro l
    induction l with
    | nil => simp
    | cons b l ih => rw [List.dropWhile_cons]; split <;> simp at ih ⊢; omega
  have h := this t.reverse
  simp at h ⊢; exact h
theorem trimL_le (l : Bs) : (trimL l).length ≤ l.length := by
  unfold trimL
  have := trimR_le (l.drop (indentL l))
  simp at this; omega

set_option maxRecDepth 100000 in
set_option maxHeartbeats 3200000 in
theorem add_form (r T m : Nat) (vD : Value) (s : SrcT) (vA vE vF : Value) (l : Bs) (w : World) (hg : Gnd w) (hl : l.length ≤ 100000) (hb : Blk w r 55 (rdC vD m s vA vE vF true)) (hs : SrcRow w T s vA vE vF) (hT : r < T) (hTs : T ≤ w.heap.size)
    (hcut : ¬ before 61 l < l.length)  :
    Calls Tryz.prog 48 #[.pointer (some ⟨r, 0, none⟩), .string (bs l)] w (AddPost r T m vD (5) (s) w) := by
  have HG := Lib.hid hg
  have HB := Lib.hid hb
  have HS := Lib.hid hs
  have HC := Lib.hid (cut_any l 61 w hg (by omega))
  rw [if_neg hcut] at HC
  clear hg hb hs hcut
  go_enter Tryz.func48, Tryz.ntmps48
  go_wp2_with fail
  refine HC.out.mono ?_
  rintro e w1 ⟨rfl, n1, rfl⟩
  go_wp2_with fail
  go_ret
  exact AddPost.same HB.out HS.out (kept_drewN _ _)

set_option maxRecDepth 100000 in
set_option maxHeartbeats 3200000 in
theorem add_author_no (r T m : Nat) (vD : Value) (s : SrcT) (vA vE vF : Value) (l : Bs) (w : World) (hg : Gnd w) (hl : l.length ≤ 100000) (hb : Blk w r 55 (rdC vD m s vA vE vF true)) (hs : SrcRow w T s vA vE vF) (hT : r < T) (hTs : T ≤ w.heap.size)
    (hcut : before 61 l < l.length) (hk : trimL (l.take (before 61 l)) = [97, 117, 116, 104, 111, 114]) (hn : (parseR (trimL (l.drop (before 61 l + 1)))).1 ≠ 0) :
    Calls Tryz.prog 48 #[.pointer (some ⟨r, 0, none⟩), .string (bs l)] w (AddPost r T m vD ((parseR (trimL (l.drop (before 61 l + 1)))).1) (s) w) := by
  have HG := Lib.hid hg
  have HB := Lib.hid hb
  have HS := Lib.hid hs
  have HC := Lib.hid (cut_any l 61 w hg (by omega))
  rw [if_pos hcut] at HC
  have hkl := trimL_le (l.take (before 61 l))
  have hvl := trimL_le (l.drop (before 61 l + 1))
  have htk : (l.take (before 61 l)).length ≤ 100000 := by simp; omega
  have htv : (l.drop (before 61 l + 1)).length ≤ 100000 := by simp; omega
  have HTK := Lib.hid (fun w => trim_any (l.take (before 61 l)) w (by omega))
  have HTV := Lib.hid (fun w => trim_any (l.drop (before 61 l + 1)) w (by omega))
  generalize trimL (l.take (before 61 l)) = k at *
  generalize trimL (l.drop (before 61 l + 1)) = v at *
  generalize l.take (before 61 l) = lk at *
  generalize l.drop (before 61 l + 1) = lv at *
  clear hg hb hs hcut
  subst hk
  go_enter Tryz.func48, Tryz.ntmps48
  go_wp2_with fail
  refine HC.out.mono ?_
  rintro e w1 ⟨rfl, n1, rfl⟩
  have HK1 := Lib.hid (kept_drewN w n1)
  generalize w.drewN n1 = w1 at *
  go_wp2_with fail
  refine (HTK.out _).mono ?_
  rintro e w' ⟨rfl, rfl⟩
  go_wp2_with fail
  refine (HTV.out _).mono ?_
  rintro e w' ⟨rfl, rfl⟩
  have HB1 := Lib.hid (HB.out.kept HK1.out)
  have hr1 := HB1.out.lt
  go_wp2_with fail
  refine (addp_no r 4 v w1 (HG.out.kept HK1.out) (by omega) hn).mono ?_
  rintro e w2 ⟨rfl, h2⟩
  have H2 := Lib.hid h2
  clear h2
  go_wp2_with fail
  go_ret
  exact AddPost.same HB.out HS.out (HK1.out.trans H2.out)

set_option maxRecDepth 100000 in
set_option maxHeartbeats 3200000 in
theorem add_author_full (r T m : Nat) (vD : Value) (s : SrcT) (vA vE vF : Value) (l : Bs) (w : World) (hg : Gnd w) (hl : l.length ≤ 100000) (hb : Blk w r 55 (rdC vD m s vA vE vF true)) (hs : SrcRow w T s vA vE vF) (hT : r < T) (hTs : T ≤ w.heap.size)
    (hcut : before 61 l < l.length) (hk : trimL (l.take (before 61 l)) = [97, 117, 116, 104, 111, 114]) (hn : (parseR (trimL (l.drop (before 61 l + 1)))).1 = 0) (h32 : 32 ≤ s.author.length) (hmax : s.author.length ≤ 1000000) :
    Calls Tryz.prog 48 #[.pointer (some ⟨r, 0, none⟩), .string (bs l)] w (AddPost r T m vD (3) (s) w) := by
  have HG := Lib.hid hg
  have HB := Lib.hid hb
  have HS := Lib.hid hs
  have HC := Lib.hid (cut_any l 61 w hg (by omega))
  rw [if_pos hcut] at HC
  have hkl := trimL_le (l.take (before 61 l))
  have hvl := trimL_le (l.drop (before 61 l + 1))
  have htk : (l.take (before 61 l)).length ≤ 100000 := by simp; omega
  have htv : (l.drop (before 61 l + 1)).length ≤ 100000 := by simp; omega
  have HTK := Lib.hid (fun w => trim_any (l.take (before 61 l)) w (by omega))
  have HTV := Lib.hid (fun w => trim_any (l.drop (before 61 l + 1)) w (by omega))
  generalize trimL (l.take (before 61 l)) = k at *
  generalize trimL (l.drop (before 61 l + 1)) = v at *
  generalize l.take (before 61 l) = lk at *
  generalize l.drop (before 61 l + 1) = lv at *
  clear hg hb hs hcut
  subst hk
  go_enter Tryz.func48, Tryz.ntmps48
  go_wp2_with fail
  refine HC.out.mono ?_
  rintro e w1 ⟨rfl, n1, rfl⟩
  have HK1 := Lib.hid (kept_drewN w n1)
  generalize w.drewN n1 = w1 at *
  go_wp2_with fail
  refine (HTK.out _).mono ?_
  rintro e w' ⟨rfl, rfl⟩
  go_wp2_with fail
  refine (HTV.out _).mono ?_
  rintro e w' ⟨rfl, rfl⟩
  have HB1 := Lib.hid (HB.out.kept HK1.out)
  have hr1 := HB1.out.lt
  obtain ⟨a, c, hv, _⟩ := own_cap HS.out.a
  have hcell : w1.cell? ⟨r, 4, none⟩ = some (.slice a s.author.length c) := by rw [← hv]; exact HB1.out.cell 4 _ rfl
  have HCELL := Lib.hid hcell
  clear hv hcell
  go_wp2_with fail
  refine (addp_full r 4 s.author.length a c v w1 (HG.out.kept HK1.out) (by omega) hn HCELL.out h32 hmax).mono ?_
  rintro e w2 ⟨rfl, h2⟩
  have H2 := Lib.hid h2
  clear h2
  go_wp2_with fail
  go_ret
  exact AddPost.same HB.out HS.out (HK1.out.trans H2.out)

set_option maxRecDepth 100000 in
set_option maxHeartbeats 3200000 in
theorem add_author_ok (r T m : Nat) (vD : Value) (s : SrcT) (vA vE vF : Value) (l : Bs) (w : World) (hg : Gnd w) (hl : l.length ≤ 100000) (hb : Blk w r 55 (rdC vD m s vA vE vF true)) (hs : SrcRow w T s vA vE vF) (hT : r < T) (hTs : T ≤ w.heap.size)
    (hcut : before 61 l < l.length) (hk : trimL (l.take (before 61 l)) = [97, 117, 116, 104, 111, 114]) (hn : (parseR (trimL (l.drop (before 61 l + 1)))).1 = 0) (h32 : s.author.length < 32) :
    Calls Tryz.prog 48 #[.pointer (some ⟨r, 0, none⟩), .string (bs l)] w (AddPost r T m vD (0) ({ s with author := s.author ++ [(parseR (trimL (l.drop (before 61 l + 1)))).2] }) w) := by
  have HG := Lib.hid hg
  have HB := Lib.hid hb
  have HS := Lib.hid hs
  have HC := Lib.hid (cut_any l 61 w hg (by omega))
  rw [if_pos hcut] at HC
  have hkl := trimL_le (l.take (before 61 l))
  have hvl := trimL_le (l.drop (before 61 l + 1))
  have htk : (l.take (before 61 l)).length ≤ 100000 := by simp; omega
  have htv : (l.drop (before 61 l + 1)).length ≤ 100000 := by simp; omega
  have HTK := Lib.hid (fun w => trim_any (l.take (before 61 l)) w (by omega))
  have HTV := Lib.hid (fun w => trim_any (l.drop (before 61 l + 1)) w (by omega))
  generalize trimL (l.take (before 61 l)) = k at *
  generalize trimL (l.drop (before 61 l + 1)) = v at *
  generalize l.take (before 61 l) = lk at *
  generalize l.drop (before 61 l + 1) = lv at *
  clear hg hb hs hcut
  subst hk
  go_enter Tryz.func48, Tryz.ntmps48
  go_wp2_with fail
  refine HC.out.mono ?_
  rintro e w1 ⟨rfl, n1, rfl⟩
  have HK1 := Lib.hid (kept_drewN w n1)
  generalize w.drewN n1 = w1 at *
  go_wp2_with fail
  refine (HTK.out _).mono ?_
  rintro e w' ⟨rfl, rfl⟩
  go_wp2_with fail
  refine (HTV.out _).mono ?_
  rintro e w' ⟨rfl, rfl⟩
  have HB1 := Lib.hid (HB.out.kept HK1.out)
  have hr1 := HB1.out.lt
  go_wp2_with fail
  refine (addp_ok r 4 T vA s.author v 55 _ w1 (HG.out.kept HK1.out) (by omega) hn HB1.out rfl hT (by have := HK1.out.size; omega) (own_kept HS.out.a HK1.out) h32).mono ?_
  rintro e w2 ⟨rfl, h2⟩
  have H2 := Lib.hid h2
  clear h2
  go_wp2_with fail
  go_ret
  exact AddPost.author HB.out HS.out HK1.out hT hTs H2.out

set_option maxRecDepth 100000 in
set_option maxHeartbeats 3200000 in
theorem add_editor_no (r T m : Nat) (vD : Value) (s : SrcT) (vA vE vF : Value) (l : Bs) (w : World) (hg : Gnd w) (hl : l.length ≤ 100000) (hb : Blk w r 55 (rdC vD m s vA vE vF true)) (hs : SrcRow w T s vA vE vF) (hT : r < T) (hTs : T ≤ w.heap.size)
    (hcut : before 61 l < l.length) (hk : trimL (l.take (before 61 l)) = [101, 100, 105, 116, 111, 114]) (hn : (parseR (trimL (l.drop (before 61 l + 1)))).1 ≠ 0) :
    Calls Tryz.prog 48 #[.pointer (some ⟨r, 0, none⟩), .string (bs l)] w (AddPost r T m vD ((parseR (trimL (l.drop (before 61 l + 1)))).1) (s) w) := by
  have HG := Lib.hid hg
  have HB := Lib.hid hb
  have HS := Lib.hid hs
  have HC := Lib.hid (cut_any l 61 w hg (by omega))
  rw [if_pos hcut] at HC
  have hkl := trimL_le (l.take (before 61 l))
  have hvl := trimL_le (l.drop (before 61 l + 1))
  have htk : (l.take (before 61 l)).length ≤ 100000 := by simp; omega
  have htv : (l.drop (before 61 l + 1)).length ≤ 100000 := by simp; omega
  have HTK := Lib.hid (fun w => trim_any (l.take (before 61 l)) w (by omega))
  have HTV := Lib.hid (fun w => trim_any (l.drop (before 61 l + 1)) w (by omega))
  generalize trimL (l.take (before 61 l)) = k at *
  generalize trimL (l.drop (before 61 l + 1)) = v at *
  generalize l.take (before 61 l) = lk at *
  generalize l.drop (before 61 l + 1) = lv at *
  clear hg hb hs hcut
  subst hk
  go_enter Tryz.func48, Tryz.ntmps48
  go_wp2_with fail
  refine HC.out.mono ?_
  rintro e w1 ⟨rfl, n1, rfl⟩
  have HK1 := Lib.hid (kept_drewN w n1)
  generalize w.drewN n1 = w1 at *
  go_wp2_with fail
  refine (HTK.out _).mono ?_
  rintro e w' ⟨rfl, rfl⟩
  go_wp2_with fail
  refine (HTV.out _).mono ?_
  rintro e w' ⟨rfl, rfl⟩
  have HB1 := Lib.hid (HB.out.kept HK1.out)
  have hr1 := HB1.out.lt
  go_wp2_with fail
  refine (addp_no r 5 v w1 (HG.out.kept HK1.out) (by omega) hn).mono ?_
  rintro e w2 ⟨rfl, h2⟩
  have H2 := Lib.hid h2
  clear h2
  go_wp2_with fail
  go_ret
  exact AddPost.same HB.out HS.out (HK1.out.trans H2.out)

set_option maxRecDepth 100000 in
set_option maxHeartbeats 3200000 in
theorem add_editor_full (r T m : Nat) (vD : Value) (s : SrcT) (vA vE vF : Value) (l : Bs) (w : World) (hg : Gnd w) (hl : l.length ≤ 100000) (hb : Blk w r 55 (rdC vD m s vA vE vF true)) (hs : SrcRow w T s vA vE vF) (hT : r < T) (hTs : T ≤ w.heap.size)
    (hcut : before 61 l < l.length) (hk : trimL (l.take (before 61 l)) = [101, 100, 105, 116, 111, 114]) (hn : (parseR (trimL (l.drop (before 61 l + 1)))).1 = 0) (h32 : 32 ≤ s.editor.length) (hmax : s.editor.length ≤ 1000000) :
    Calls Tryz.prog 48 #[.pointer (some ⟨r, 0, none⟩), .string (bs l)] w (AddPost r T m vD (3) (s) w) := by
  have HG := Lib.hid hg
  have HB := Lib.hid hb
  have HS := Lib.hid hs
  have HC := Lib.hid (cut_any l 61 w hg (by omega))
  rw [if_pos hcut] at HC
  have hkl := trimL_le (l.take (before 61 l))
  have hvl := trimL_le (l.drop (before 61 l + 1))
  have htk : (l.take (before 61 l)).length ≤ 100000 := by simp; omega
  have htv : (l.drop (before 61 l + 1)).length ≤ 100000 := by simp; omega
  have HTK := Lib.hid (fun w => trim_any (l.take (before 61 l)) w (by omega))
  have HTV := Lib.hid (fun w => trim_any (l.drop (before 61 l + 1)) w (by omega))
  generalize trimL (l.take (before 61 l)) = k at *
  generalize trimL (l.drop (before 61 l + 1)) = v at *
  generalize l.take (before 61 l) = lk at *
  generalize l.drop (before 61 l + 1) = lv at *
  clear hg hb hs hcut
  subst hk
  go_enter Tryz.func48, Tryz.ntmps48
  go_wp2_with fail
  refine HC.out.mono ?_
  rintro e w1 ⟨rfl, n1, rfl⟩
  have HK1 := Lib.hid (kept_drewN w n1)
  generalize w.drewN n1 = w1 at *
  go_wp2_with fail
  refine (HTK.out _).mono ?_
  rintro e w' ⟨rfl, rfl⟩
  go_wp2_with fail
  refine (HTV.out _).mono ?_
  rintro e w' ⟨rfl, rfl⟩
  have HB1 := Lib.hid (HB.out.kept HK1.out)
  have hr1 := HB1.out.lt
  obtain ⟨a, c, hv, _⟩ := own_cap HS.out.e
  have hcell : w1.cell? ⟨r, 5, none⟩ = some (.slice a s.editor.length c) := by rw [← hv]; exact HB1.out.cell 5 _ rfl
  have HCELL := Lib.hid hcell
  clear hv hcell
  go_wp2_with fail
  refine (addp_full r 5 s.editor.length a c v w1 (HG.out.kept HK1.out) (by omega) hn HCELL.out h32 hmax).mono ?_
  rintro e w2 ⟨rfl, h2⟩
  have H2 := Lib.hid h2
  clear h2
  go_wp2_with fail
  go_ret
  exact AddPost.same HB.out HS.out (HK1.out.trans H2.out)

set_option maxRecDepth 100000 in
set_option maxHeartbeats 3200000 in
theorem add_editor_ok (r T m : Nat) (vD : Value) (s : SrcT) (vA vE vF : Value) (l : Bs) (w : World) (hg : Gnd w) (hl : l.length ≤ 100000) (hb : Blk w r 55 (rdC vD m s vA vE vF true)) (hs : SrcRow w T s vA vE vF) (hT : r < T) (hTs : T ≤ w.heap.size)
    (hcut : before 61 l < l.length) (hk : trimL (l.take (before 61 l)) = [101, 100, 105, 116, 111, 114]) (hn : (parseR (trimL (l.drop (before 61 l + 1)))).1 = 0) (h32 : s.editor.length < 32) :
    Calls Tryz.prog 48 #[.pointer (some ⟨r, 0, none⟩), .string (bs l)] w (AddPost r T m vD (0) ({ s with editor := s.editor ++ [(parseR (trimL (l.drop (before 61 l + 1)))).2] }) w) := by
  have HG := Lib.hid hg
  have HB := Lib.hid hb
  have HS := Lib.hid hs
  have HC := Lib.hid (cut_any l 61 w hg (by omega))
  rw [if_pos hcut] at HC
  have hkl := trimL_le (l.take (before 61 l))
  have hvl := trimL_le (l.drop (before 61 l + 1))
  have htk : (l.take (before 61 l)).length ≤ 100000 := by simp; omega
  have htv : (l.drop (before 61 l + 1)).length ≤ 100000 := by simp; omega
  have HTK := Lib.hid (fun w => trim_any (l.take (before 61 l)) w (by omega))
  have HTV := Lib.hid (fun w => trim_any (l.drop (before 61 l + 1)) w (by omega))
  generalize trimL (l.take (before 61 l)) = k at *
  generalize trimL (l.drop (before 61 l + 1)) = v at *
  generalize l.take (before 61 l) = lk at *
  generalize l.drop (before 61 l + 1) = lv at *
  clear hg hb hs hcut
  subst hk
  go_enter Tryz.func48, Tryz.ntmps48
  go_wp2_with fail
  refine HC.out.mono ?_
  rintro e w1 ⟨rfl, n1, rfl⟩
  have HK1 := Lib.hid (kept_drewN w n1)
  generalize w.drewN n1 = w1 at *
  go_wp2_with fail
  refine (HTK.out _).mono ?_
  rintro e w' ⟨rfl, rfl⟩
  go_wp2_with fail
  refine (HTV.out _).mono ?_
  rintro e w' ⟨rfl, rfl⟩
  have HB1 := Lib.hid (HB.out.kept HK1.out)
  have hr1 := HB1.out.lt
  go_wp2_with fail
  refine (addp_ok r 5 T vE s.editor v 55 _ w1 (HG.out.kept HK1.out) (by omega) hn HB1.out rfl hT (by have := HK1.out.size; omega) (own_kept HS.out.e HK1.out) h32).mono ?_
  rintro e w2 ⟨rfl, h2⟩
  have H2 := Lib.hid h2
  clear h2
  go_wp2_with fail
  go_ret
  exact AddPost.editor HB.out HS.out HK1.out hT hTs H2.out

set_option maxRecDepth 100000 in
set_option maxHeartbeats 3200000 in
theorem add_name (r T m : Nat) (vD : Value) (s : SrcT) (vA vE vF : Value) (l : Bs) (w : World) (hg : Gnd w) (hl : l.length ≤ 100000) (hb : Blk w r 55 (rdC vD m s vA vE vF true)) (hs : SrcRow w T s vA vE vF) (hT : r < T) (hTs : T ≤ w.heap.size)
    (hcut : before 61 l < l.length) (ha : (trimL (l.take (before 61 l)) == [97, 117, 116, 104, 111, 114]) = false) (he : (trimL (l.take (before 61 l)) == [101, 100, 105, 116, 111, 114]) = false) (hnm : nameB (trimL (l.take (before 61 l))) = false) :
    Calls Tryz.prog 48 #[.pointer (some ⟨r, 0, none⟩), .string (bs l)] w (AddPost r T m vD (6) (s) w) := by
  have HG := Lib.hid hg
  have HB := Lib.hid hb
  have HS := Lib.hid hs
  have HC := Lib.hid (cut_any l 61 w hg (by omega))
  rw [if_pos hcut] at HC
  have hkl := trimL_le (l.take (before 61 l))
  have hvl := trimL_le (l.drop (before 61 l + 1))
  have htk : (l.take (before 61 l)).length ≤ 100000 := by simp; omega
  have htv : (l.drop (before 61 l + 1)).length ≤ 100000 := by simp; omega
  have HTK := Lib.hid (fun w => trim_any (l.take (before 61 l)) w (by omega))
  have HTV := Lib.hid (fun w => trim_any (l.drop (before 61 l + 1)) w (by omega))
  generalize trimL (l.take (before 61 l)) = k at *
  generalize trimL (l.drop (before 61 l + 1)) = v at *
  generalize l.take (before 61 l) = lk at *
  generalize l.drop (before 61 l + 1) = lv at *
  clear hg hb hs hcut
  go_enter Tryz.func48, Tryz.ntmps48
  go_wp2_with fail
  refine HC.out.mono ?_
  rintro e w1 ⟨rfl, n1, rfl⟩
  have HK1 := Lib.hid (kept_drewN w n1)
  generalize w.drewN n1 = w1 at *
  go_wp2_with fail
  refine (HTK.out _).mono ?_
  rintro e w' ⟨rfl, rfl⟩
  go_wp2_with fail
  refine (HTV.out _).mono ?_
  rintro e w' ⟨rfl, rfl⟩
  go_wp2_with fail
  refine (isName_any k _ (by omega)).mono ?_
  rw [hnm]
  rintro e w2 ⟨rfl, hk2⟩
  have HK2 := Lib.hid (HK1.out.trans hk2)
  clear hk2
  go_wp2_with fail
  go_ret
  exact AddPost.same HB.out HS.out HK2.out

set_option maxRecDepth 100000 in
set_option maxHeartbeats 3200000 in
theorem add_text (r T m : Nat) (vD : Value) (s : SrcT) (vA vE vF : Value) (l : Bs) (w : World) (hg : Gnd w) (hl : l.length ≤ 100000) (hb : Blk w r 55 (rdC vD m s vA vE vF true)) (hs : SrcRow w T s vA vE vF) (hT : r < T) (hTs : T ≤ w.heap.size)
    (hcut : before 61 l < l.length) (ha : (trimL (l.take (before 61 l)) == [97, 117, 116, 104, 111, 114]) = false) (he : (trimL (l.take (before 61 l)) == [101, 100, 105, 116, 111, 114]) = false) (hnm : nameB (trimL (l.take (before 61 l))) = true) (hv0 : trimL (l.drop (before 61 l + 1)) = []) :
    Calls Tryz.prog 48 #[.pointer (some ⟨r, 0, none⟩), .string (bs l)] w (AddPost r T m vD (17) (s) w) := by
  have HG := Lib.hid hg
  have HB := Lib.hid hb
  have HS := Lib.hid hs
  have HC := Lib.hid (cut_any l 61 w hg (by omega))
  rw [if_pos hcut] at HC
  have hkl := trimL_le (l.take (before 61 l))
  have hvl := trimL_le (l.drop (before 61 l + 1))
  have htk : (l.take (before 61 l)).length ≤ 100000 := by simp; omega
  have htv : (l.drop (before 61 l + 1)).length ≤ 100000 := by simp; omega
  have HTK := Lib.hid (fun w => trim_any (l.take (before 61 l)) w (by omega))
  have HTV := Lib.hid (fun w => trim_any (l.drop (before 61 l + 1)) w (by omega))
  generalize trimL (l.take (before 61 l)) = k at *
  generalize trimL (l.drop (before 61 l + 1)) = v at *
  generalize l.take (before 61 l) = lk at *
  generalize l.drop (before 61 l + 1) = lv at *
  clear hg hb hs hcut
  subst hv0
  go_enter Tryz.func48, Tryz.ntmps48
  go_wp2_with fail
  refine HC.out.mono ?_
  rintro e w1 ⟨rfl, n1, rfl⟩
  have HK1 := Lib.hid (kept_drewN w n1)
  generalize w.drewN n1 = w1 at *
  go_wp2_with fail
  refine (HTK.out _).mono ?_
  rintro e w' ⟨rfl, rfl⟩
  go_wp2_with fail
  refine (HTV.out _).mono ?_
  rintro e w' ⟨rfl, rfl⟩
  go_wp2_with fail
  refine (isName_any k _ (by omega)).mono ?_
  rw [hnm]
  rintro e w2 ⟨rfl, hk2⟩
  have HK2 := Lib.hid (HK1.out.trans hk2)
  clear hk2
  go_wp2_with fail
  go_ret
  exact AddPost.same HB.out HS.out HK2.out

set_option maxRecDepth 100000 in
set_option maxHeartbeats 3200000 in
theorem add_twice (r T m : Nat) (vD : Value) (s : SrcT) (vA vE vF : Value) (l : Bs) (w : World) (hg : Gnd w) (hl : l.length ≤ 100000) (hb : Blk w r 55 (rdC vD m s vA vE vF true)) (hs : SrcRow w T s vA vE vF) (hT : r < T) (hTs : T ≤ w.heap.size)
    (hcut : before 61 l < l.length) (ha : (trimL (l.take (before 61 l)) == [97, 117, 116, 104, 111, 114]) = false) (he : (trimL (l.take (before 61 l)) == [101, 100, 105, 116, 111, 114]) = false) (hnm : nameB (trimL (l.take (before 61 l))) = true) (hv0 : ¬ trimL (l.drop (before 61 l + 1)) = []) (hv1 : (trimL (l.drop (before 61 l + 1))).isEmpty = false) (hmax : s.fields.length ≤ 1000000) (hhas : hasB s.fields (trimL (l.take (before 61 l))) = true) :
    Calls Tryz.prog 48 #[.pointer (some ⟨r, 0, none⟩), .string (bs l)] w (AddPost r T m vD (7) (s) w) := by
  have HG := Lib.hid hg
  have HB := Lib.hid hb
  have HS := Lib.hid hs
  have HC := Lib.hid (cut_any l 61 w hg (by omega))
  rw [if_pos hcut] at HC
  have hkl := trimL_le (l.take (before 61 l))
  have hvl := trimL_le (l.drop (before 61 l + 1))
  have htk : (l.take (before 61 l)).length ≤ 100000 := by simp; omega
  have htv : (l.drop (before 61 l + 1)).length ≤ 100000 := by simp; omega
  have HTK := Lib.hid (fun w => trim_any (l.take (before 61 l)) w (by omega))
  have HTV := Lib.hid (fun w => trim_any (l.drop (before 61 l + 1)) w (by omega))
  generalize trimL (l.take (before 61 l)) = k at *
  generalize trimL (l.drop (before 61 l + 1)) = v at *
  generalize l.take (before 61 l) = lk at *
  generalize l.drop (before 61 l + 1) = lv at *
  clear hg hb hs hcut
  go_enter Tryz.func48, Tryz.ntmps48
  go_wp2_with fail
  refine HC.out.mono ?_
  rintro e w1 ⟨rfl, n1, rfl⟩
  have HK1 := Lib.hid (kept_drewN w n1)
  generalize w.drewN n1 = w1 at *
  go_wp2_with fail
  refine (HTK.out _).mono ?_
  rintro e w' ⟨rfl, rfl⟩
  go_wp2_with fail
  refine (HTV.out _).mono ?_
  rintro e w' ⟨rfl, rfl⟩
  go_wp2_with fail
  refine (isName_any k _ (by omega)).mono ?_
  rw [hnm]
  rintro e w2 ⟨rfl, hk2⟩
  have HK2 := Lib.hid (HK1.out.trans hk2)
  clear hk2
  have HB2 := Lib.hid (HB.out.kept HK2.out)
  have hr2 := HB2.out.lt
  obtain ⟨fa, fc, hfv, _⟩ := own_cap HS.out.f
  have cF : w2.cell? ⟨r, 6, none⟩ = some (.slice fa s.fields.length fc) := by rw [← hfv]; exact HB2.out.cell 6 _ rfl
  have HFV := Lib.hid hfv
  clear hfv
  go_wp2_with fail
  refine (hasField_any _ s.fields k _ (by rw [← HFV.out]; exact (Prs.own HS.out.f).kept HK2.out) (by omega)).mono ?_
  rw [hhas]
  rintro e w3 ⟨rfl, hk3⟩
  have HK3 := Lib.hid (HK2.out.trans hk3)
  clear hk3 cF
  go_wp2_with fail
  go_ret
  exact AddPost.same HB.out HS.out HK3.out

set_option maxRecDepth 100000 in
set_option maxHeartbeats 3200000 in
theorem add_limit (r T m : Nat) (vD : Value) (s : SrcT) (vA vE vF : Value) (l : Bs) (w : World) (hg : Gnd w) (hl : l.length ≤ 100000) (hb : Blk w r 55 (rdC vD m s vA vE vF true)) (hs : SrcRow w T s vA vE vF) (hT : r < T) (hTs : T ≤ w.heap.size)
    (hcut : before 61 l < l.length) (ha : (trimL (l.take (before 61 l)) == [97, 117, 116, 104, 111, 114]) = false) (he : (trimL (l.take (before 61 l)) == [101, 100, 105, 116, 111, 114]) = false) (hnm : nameB (trimL (l.take (before 61 l))) = true) (hv0 : ¬ trimL (l.drop (before 61 l + 1)) = []) (hv1 : (trimL (l.drop (before 61 l + 1))).isEmpty = false) (hmax : s.fields.length ≤ 1000000) (hhas : hasB s.fields (trimL (l.take (before 61 l))) = false) (h24 : 24 ≤ s.fields.length) :
    Calls Tryz.prog 48 #[.pointer (some ⟨r, 0, none⟩), .string (bs l)] w (AddPost r T m vD (3) (s) w) := by
  have HG := Lib.hid hg
  have HB := Lib.hid hb
  have HS := Lib.hid hs
  have HC := Lib.hid (cut_any l 61 w hg (by omega))
  rw [if_pos hcut] at HC
  have hkl := trimL_le (l.take (before 61 l))
  have hvl := trimL_le (l.drop (before 61 l + 1))
  have htk : (l.take (before 61 l)).length ≤ 100000 := by simp; omega
  have htv : (l.drop (before 61 l + 1)).length ≤ 100000 := by simp; omega
  have HTK := Lib.hid (fun w => trim_any (l.take (before 61 l)) w (by omega))
  have HTV := Lib.hid (fun w => trim_any (l.drop (before 61 l + 1)) w (by omega))
  generalize trimL (l.take (before 61 l)) = k at *
  generalize trimL (l.drop (before 61 l + 1)) = v at *
  generalize l.take (before 61 l) = lk at *
  generalize l.drop (before 61 l + 1) = lv at *
  clear hg hb hs hcut
  go_enter Tryz.func48, Tryz.ntmps48
  go_wp2_with fail
  refine HC.out.mono ?_
  rintro e w1 ⟨rfl, n1, rfl⟩
  have HK1 := Lib.hid (kept_drewN w n1)
  generalize w.drewN n1 = w1 at *
  go_wp2_with fail
  refine (HTK.out _).mono ?_
  rintro e w' ⟨rfl, rfl⟩
  go_wp2_with fail
  refine (HTV.out _).mono ?_
  rintro e w' ⟨rfl, rfl⟩
  go_wp2_with fail
  refine (isName_any k _ (by omega)).mono ?_
  rw [hnm]
  rintro e w2 ⟨rfl, hk2⟩
  have HK2 := Lib.hid (HK1.out.trans hk2)
  clear hk2
  have HB2 := Lib.hid (HB.out.kept HK2.out)
  have hr2 := HB2.out.lt
  obtain ⟨fa, fc, hfv, _⟩ := own_cap HS.out.f
  have cF : w2.cell? ⟨r, 6, none⟩ = some (.slice fa s.fields.length fc) := by rw [← hfv]; exact HB2.out.cell 6 _ rfl
  have HFV := Lib.hid hfv
  clear hfv
  go_wp2_with fail
  refine (hasField_any _ s.fields k _ (by rw [← HFV.out]; exact (Prs.own HS.out.f).kept HK2.out) (by omega)).mono ?_
  rw [hhas]
  rintro e w3 ⟨rfl, hk3⟩
  have HK3 := Lib.hid (HK2.out.trans hk3)
  clear hk3 cF
  have HB3 := Lib.hid (HB.out.kept HK3.out)
  have hr3 := HB3.out.lt
  have cF : w3.cell? ⟨r, 6, none⟩ = some (.slice fa s.fields.length fc) := by rw [← HFV.out]; exact HB3.out.cell 6 _ rfl
  go_wp2_with fail
  go_ret
  exact AddPost.same HB.out HS.out HK3.out

set_option maxRecDepth 100000 in
set_option maxHeartbeats 3200000 in
theorem add_field (r T m : Nat) (vD : Value) (s : SrcT) (vA vE vF : Value) (l : Bs) (w : World) (hg : Gnd w) (hl : l.length ≤ 100000) (hb : Blk w r 55 (rdC vD m s vA vE vF true)) (hs : SrcRow w T s vA vE vF) (hT : r < T) (hTs : T ≤ w.heap.size)
    (hcut : before 61 l < l.length) (ha : (trimL (l.take (before 61 l)) == [97, 117, 116, 104, 111, 114]) = false) (he : (trimL (l.take (before 61 l)) == [101, 100, 105, 116, 111, 114]) = false) (hnm : nameB (trimL (l.take (before 61 l))) = true) (hv0 : ¬ trimL (l.drop (before 61 l + 1)) = []) (hv1 : (trimL (l.drop (before 61 l + 1))).isEmpty = false) (hmax : s.fields.length ≤ 1000000) (hhas : hasB s.fields (trimL (l.take (before 61 l))) = false) (h24 : s.fields.length < 24) :
    Calls Tryz.prog 48 #[.pointer (some ⟨r, 0, none⟩), .string (bs l)] w (AddPost r T m vD (0) ({ s with fields := s.fields ++ [(trimL (l.take (before 61 l)), trimL (l.drop (before 61 l + 1)))] }) w) := by
  have HG := Lib.hid hg
  have HB := Lib.hid hb
  have HS := Lib.hid hs
  have HC := Lib.hid (cut_any l 61 w hg (by omega))
  obtain ⟨i0, hi, hz0, hz1, hz2⟩ := info_parts Tryz.infoPair
  rw [if_pos hcut] at HC
  have hkl := trimL_le (l.take (before 61 l))
  have hvl := trimL_le (l.drop (before 61 l + 1))
  have htk : (l.take (before 61 l)).length ≤ 100000 := by simp; omega
  have htv : (l.drop (before 61 l + 1)).length ≤ 100000 := by simp; omega
  have HTK := Lib.hid (fun w => trim_any (l.take (before 61 l)) w (by omega))
  have HTV := Lib.hid (fun w => trim_any (l.drop (before 61 l + 1)) w (by omega))
  generalize trimL (l.take (before 61 l)) = k at *
  generalize trimL (l.drop (before 61 l + 1)) = v at *
  generalize l.take (before 61 l) = lk at *
  generalize l.drop (before 61 l + 1) = lv at *
  clear hg hb hs hcut
  go_enter Tryz.func48, Tryz.ntmps48
  go_wp2_with fail
  refine HC.out.mono ?_
  rintro e w1 ⟨rfl, n1, rfl⟩
  have HK1 := Lib.hid (kept_drewN w n1)
  generalize w.drewN n1 = w1 at *
  go_wp2_with fail
  refine (HTK.out _).mono ?_
  rintro e w' ⟨rfl, rfl⟩
  go_wp2_with fail
  refine (HTV.out _).mono ?_
  rintro e w' ⟨rfl, rfl⟩
  go_wp2_with fail
  refine (isName_any k _ (by omega)).mono ?_
  rw [hnm]
  rintro e w2 ⟨rfl, hk2⟩
  have HK2 := Lib.hid (HK1.out.trans hk2)
  clear hk2
  have HB2 := Lib.hid (HB.out.kept HK2.out)
  have hr2 := HB2.out.lt
  obtain ⟨fa, fc, hfv, _⟩ := own_cap HS.out.f
  have cF : w2.cell? ⟨r, 6, none⟩ = some (.slice fa s.fields.length fc) := by rw [← hfv]; exact HB2.out.cell 6 _ rfl
  have HFV := Lib.hid hfv
  clear hfv
  go_wp2_with fail
  refine (hasField_any _ s.fields k _ (by rw [← HFV.out]; exact (Prs.own HS.out.f).kept HK2.out) (by omega)).mono ?_
  rw [hhas]
  rintro e w3 ⟨rfl, hk3⟩
  have HK3 := Lib.hid (HK2.out.trans hk3)
  clear hk3 cF
  have HB3 := Lib.hid (HB.out.kept HK3.out)
  have hr3 := HB3.out.lt
  have cF : w3.cell? ⟨r, 6, none⟩ = some (.slice fa s.fields.length fc) := by rw [← HFV.out]; exact HB3.out.cell 6 _ rfl
  have f6 : w3.frozen? ⟨r, 6, none⟩ = false := HB3.out.free 6
  have hown := own_kept HS.out.f HK3.out
  rw [HFV.out] at hown
  have hT3 : T ≤ w3.heap.size := by have := HK3.out.size; omega
  go_wp2_with (at_builtin; refine wpList_append_lies _ rfl _ _ 42 rfl T 47 i0 _ 2 32 Tryz.underlying42 hi hz0 hz1 hz2 rfl (by decide) _ s.fields.length (pairC s.fields) rfl (hown.alloc _) ⟨w3.heap.size, 0, none⟩ 1 1 [.string (bs k), .string (bs v)] rfl rfl (new_cells _ #[.string (bs k), .string (bs v)] _ _ (by simp)) (by simp [Value.oneCell']) (by omega) (by unfold maxLen; omega) (by omega) (by simp; omega) (w3.heap.size + 1) (by simp) ?_)
  intro g cap w4 hown4 hgrow hat hlt
  have hne : some r ≠ (Value.slice fa s.fields.length fc).ownBlock := fun q => by have := (hown.lt r q.symm).1; omega
  have HB4 := Lib.hid (show Blk w4 r 55 (rdC vD m s vA vE vF true) from (hgrow.block r (by simp; omega) hne).trans (HB3.out.alloc _))
  have c4 : w4.cell? ⟨r, 6, none⟩ = some vF := HB4.out.cell 6 _ rfl
  have f4 : w4.frozen? ⟨r, 6, none⟩ = false := HB4.out.free 6
  have z4 := HB4.out.lt
  have HP : Hid (Pushed r 6 T 47 2 (s.fields.length + 1) (pairC (s.fields ++ [(k, v)])) vF w3 (w4.setCell ⟨r, 6, none⟩ (.slice (some ⟨g, 0, none⟩) (s.fields.length + 1) cap))) := by
    rw [HFV.out]
    refine pushed_of (kept_alloc w3 _) hgrow (by rw [pairC_snoc]; exact hown4) ?_ (fun k h => (hown.lt k h).1) hT hr3 (by omega)
    rcases hat with h | h
    · exact .inl h
    · exact .inr (by omega)
  clear hgrow hown4 hat hown cF f6
  go_wp2_with fail
  go_ret
  exact AddPost.field HB.out HS.out HK3.out hT hTs HP.out

end Go.Proofs.YtgkgcheegaegnaaGreatDoor
