/- bib.addPerson. Conditions: lengths. -/
import Derived.Test.YteflhlbgbgamnaaGreatDoorT19
import Derived.Deep.RegionLaw

set_option linter.all false
namespace Go.Proofs.YteflhlbgbgamnaaGreatDoor
open Go.RowKit

/-- An append to a row, and the store of its slice into the block r: what that leaves. -/
theorem pushed_of {r o T : Nat} {e : TypeId} {size n : Nat} {xs : List Value} {v : Value} {w wa w3 : World} {g cap : Nat} (hk : Kept w wa) (hg : wa.grownBy w3 v.ownBlock) (hO : w3.ownsRow T e size (.slice (some ⟨g, 0, none⟩) n cap) n xs)
    (hat : v.ownBlock = some g ∨ w.heap.size ≤ g) (hv : ∀ k, v.ownBlock = some k → T ≤ k) (hT : r < T) (hr : r < w.heap.size) (hn : 0 < n) :
    Pushed r o T e size n xs v w (w3.setCell ⟨r, o, none⟩ (.slice (some ⟨g, 0, none⟩) n cap)) := by
  have hTg : T ≤ g := by
    rcases hO.2 with ⟨_, h0⟩ | ⟨g', cap', cur, hv', hb, _⟩
    · omega
    · simp at hv'; omega
  have hne : some r ≠ v.ownBlock := fun q => by have := hv r q.symm; omega
  refine ⟨⟨g, cap, ?_, hat, fun t cs hB => ?_⟩, ?_⟩
  · exact (Only.setCell r o _).own hO (fun g' h q => by simp [Value.ownBlock] at h; omega)
  · have h1 := hB.kept hk
    have h2 : Blk w3 r t cs := (hg.block r (by have := hk.size; omega) hne).trans h1
    exact set_blk h2 _
  · refine (Only.of_kept hk).trans (((Only.grown hg).mono (fun i _ h => .inl h)).trans ((Only.setCell r o _).mono (fun i _ h => .inr h)))
set_option maxRecDepth 100000 in
set_option maxHeartbeats 1600000 in
theorem addp_no (r o : Nat) (l : Bs) (w : World) (hg : Gnd w) (hl : l.length ≤ 1000000) (hn : (parseR l).1 ≠ 0) :
    Calls Tryz.prog 117 #[.pointer (some ⟨r, o, none⟩), .string (bs l)] w fun e w' => e = .returned (.int .i64 (parseR l).1) ∧ Kept w w' := by
  have HP := Lib.hid (parse_any l w hg hl)
  unfold ParsePost at HP
  generalize (parseR l).1 = n at *
  generalize (parseR l).2 = q at *
  have hn1 : (n != 0) = true := by simpa using hn
  have hn2 : (n == 0) = false := by simpa using hn
  clear hn
  obtain ⟨q1, q2, q3, q4⟩ := q
  go_enter Tryz.func117, Tryz.ntmps117
  go_wp2_with fail
  refine HP.out.mono ?_
  rintro e w1 ⟨rfl, hk1⟩
  have HK := Lib.hid hk1
  clear hk1
  go_wp2_with fail
  go_ret
  exact ⟨rfl, HK.out.trans (kept_alloc _ _)⟩

set_option maxRecDepth 100000 in
set_option maxHeartbeats 1600000 in
theorem addp_full (r o n : Nat) (a : Option Addr) (c : Nat) (l : Bs) (w : World) (hg : Gnd w) (hl : l.length ≤ 1000000) (hn : (parseR l).1 = 0) (hc : w.cell? ⟨r, o, none⟩ = some (.slice a n c)) (h32 : 32 ≤ n) (hnn : n ≤ 1000000) :
    Calls Tryz.prog 117 #[.pointer (some ⟨r, o, none⟩), .string (bs l)] w fun e w' => e = .returned (.int .i64 3) ∧ Kept w w' := by
  have HP := Lib.hid (parse_any l w hg hl)
  unfold ParsePost at HP
  rw [hn] at HP
  clear hn
  generalize (parseR l).2 = q at *
  obtain ⟨q1, q2, q3, q4⟩ := q
  have hb := World.block_lt_of_cell? w (a := ⟨r, o, none⟩) hc
  simp only at hb
  have HC := Lib.hid hc
  clear hc
  go_enter Tryz.func117, Tryz.ntmps117
  go_wp2_with fail
  refine HP.out.mono ?_
  rintro e w1 ⟨rfl, hk1⟩
  have c0 : w1.cell? ⟨r, o, none⟩ = some (.slice a n c) := (hk1.cell (p := ⟨r, o, none⟩) hb).trans HC.out
  have hb1 : r < w1.heap.size := by have := hk1.size; omega
  have HK := Lib.hid hk1
  clear hk1
  go_wp2_with fail
  go_ret
  exact ⟨rfl, HK.out.trans (kept_alloc _ _)⟩

set_option maxRecDepth 100000 in
set_option maxHeartbeats 3200000 in
theorem addp_ok (r o T : Nat) (v : Value) (ps : List P4) (l : Bs) (t : TypeId) (cs : Array Value) (w : World) (hg : Gnd w) (hl : l.length ≤ 1000000) (hn : (parseR l).1 = 0) (hr : Blk w r t cs) (hco : cs[o]? = some v) (hT : r < T) (hTs : T ≤ w.heap.size)
    (hown : w.ownsRow T 32 4 v ps.length (persC ps)) (h32 : ps.length < 32) :
    Calls Tryz.prog 117 #[.pointer (some ⟨r, o, none⟩), .string (bs l)] w fun e w' => e = .returned (.int .i64 0) ∧ Pushed r o T 32 4 (ps.length + 1) (persC (ps ++ [(parseR l).2])) v w w' := by
  obtain ⟨i0, hi, hz0, hz1, hz2⟩ := info_parts Tryz.infoPers
  have HP := Lib.hid (parse_any l w hg hl)
  unfold ParsePost at HP
  rw [hn] at HP
  clear hn
  generalize (parseR l).2 = q at *
  obtain ⟨q1, q2, q3, q4⟩ := q
  obtain ⟨a, c, hv, hcc, _, _⟩ := own_cap hown
  have HOWN := Lib.hid hown
  have HR := Lib.hid hr
  have hrl := hr.lt
  subst hv
  clear hown hr
  go_enter Tryz.func117, Tryz.ntmps117
  go_wp2_with fail
  refine HP.out.mono ?_
  rintro e w1 ⟨rfl, hk1⟩
  have HR1 := Lib.hid (HR.out.kept hk1)
  have c0 : w1.cell? ⟨r, o, none⟩ = some (.slice a ps.length c) := HR1.out.cell o _ hco
  have hb1 : r < w1.heap.size := HR1.out.lt
  have hT1 : T ≤ w1.heap.size := by have := hk1.size; omega
  have HOWN1 := Lib.hid (own_kept HOWN.out hk1)
  have HK1 := Lib.hid hk1
  clear hk1
  go_wp2_with fail
  have hown2 := HOWN1.out.alloc (.cells #[.string (bs q1), .string (bs q2), .string (bs q3), .string (bs q4)] 32)
  have HR2 := Lib.hid (HR1.out.alloc (.cells #[.string (bs q1), .string (bs q2), .string (bs q3), .string (bs q4)] 32))
  have HK2 := Lib.hid (HK1.out.trans (kept_alloc w1 (.cells #[.string (bs q1), .string (bs q2), .string (bs q3), .string (bs q4)] 32)))
  have HB2 := Lib.hid (Blk.new w1 32 #[.string (bs q1), .string (bs q2), .string (bs q3), .string (bs q4)])
  generalize w1.alloc (.cells #[.string (bs q1), .string (bs q2), .string (bs q3), .string (bs q4)] 32) = w2 at *
  have e0 : w2.cell? ⟨r, o, none⟩ = some (.slice a ps.length c) := HR2.out.cell o _ hco
  have d0 : w2.cell? ⟨w1.heap.size, 0, none⟩ = some (.string (bs q1)) := HB2.out.cell 0 _ rfl
  have d1 : w2.cell? ⟨w1.heap.size, 1, none⟩ = some (.string (bs q2)) := HB2.out.cell 1 _ rfl
  have d2 : w2.cell? ⟨w1.heap.size, 2, none⟩ = some (.string (bs q3)) := HB2.out.cell 2 _ rfl
  have d3 : w2.cell? ⟨w1.heap.size, 3, none⟩ = some (.string (bs q4)) := HB2.out.cell 3 _ rfl
  have z2 := HB2.out.lt
  have hb2 := HR2.out.lt
  have hT2 : T ≤ w2.heap.size := by omega
  have HOWN2 := Lib.hid hown2
  have HNEWS := Lib.hid (World.news_of_block (w := (w2.alloc (.cells #[.string (bs q1), .string (bs q2), .string (bs q3), .string (bs q4)] 32)).drew) (B := w2.heap.size) (cs := #[.string (bs q1), .string (bs q2), .string (bs q3), .string (bs q4)]) (t := 32) (fr := (0, 0)) (heap_alloc_new w2 _))
  have HRB := Lib.hid (((HR2.out.alloc (.cells #[.string (bs q1), .string (bs q2), .string (bs q3), .string (bs q4)] 32)).kept (kept_drewN _ 1)))
  have HRN : Hid (some r ≠ (Value.slice a ps.length c).ownBlock) := fun q => by
    have := (HOWN2.out.lt r q.symm).1; omega
  clear hown2 c0
  go_region_law ((refine step_append_lies _ rfl (.tmp 23) (.tmp 25) 37 rfl T 32 i0 _ 4 64 Tryz.underlying37 hi hz0 hz1 hz2 rfl (by omega) (.slice a ps.length c) ps.length (persC ps) (by simp [Act.eval, Act.put]) ((HOWN2.out.alloc _).drew) ⟨w2.heap.size, 0, none⟩ 1 1 [.string (bs q1), .string (bs q2), .string (bs q3), .string (bs q4)] (by simp [Act.eval, Act.put]) rfl HNEWS.out (by simp [Value.oneCell']) (by omega) (by unfold maxLen; omega) (by omega) (by simp; omega) (w2.heap.size + 1) (by simp) ?_; intro g cap w3 hown3 hgrow hat hlt; have hrb := hgrow.block r (by simp; omega) HRN.out; have HRW := Lib.hid (show Blk w3 r t cs from hrb.trans HRB.out); have f3 : w3.cell? ⟨r, o, none⟩ = some (.slice a ps.length c) := HRW.out.cell o _ hco; have f4 : w3.frozen? ⟨r, o, none⟩ = false := HRW.out.free o; have z3 := HRW.out.lt; have HG3 := Lib.hid hgrow; have HO3 := Lib.hid hown3; have HAT := Lib.hid hat; clear hgrow hown3 hat hrb))
  all_goals
    go_wp2_with fail
    go_ret
    refine ⟨rfl, pushed_of ((HK2.out.trans (kept_alloc w2 _)).trans (kept_drewN _ 1)) HG3.out (by rw [persC_snoc]; exact HO3.out) ?_ (fun k h => (HOWN2.out.lt k h).1) hT hrl (by omega)⟩
    rcases HAT.out with h | h
    · exact .inl h
    · have := HK2.out.size; exact .inr (by omega)
end Go.Proofs.YteflhlbgbgamnaaGreatDoor

/- (*reader).add of package bib. Conditions: lengths. -/
set_option linter.all false
namespace Go.Proofs.YteflhlbgbgamnaaGreatDoor
open Go.RowKit

/-- A source: key, type, authors, editors, fields. -/
structure SrcT where
  key : Bs
  type : Bs
  author : List P4
  editor : List P4
  fields : List Pr
def kAuthor : Bs := [97, 117, 116, 104, 111, 114]
def kEditor : Bs := [101, 100, 105, 116, 111, 114]
/-- A line in a source: the error, and the source. -/
def addS (s : SrcT) (l : Bs) : Int × SrcT :=
  if before 61 l < l.length then
    if trimL (l.take (before 61 l)) = kAuthor then
      if (parseR (trimL (l.drop (before 61 l + 1)))).1 ≠ 0 then ((parseR (trimL (l.drop (before 61 l + 1)))).1, s)
      else if 32 ≤ s.author.length then (3, s) else (0, { s with author := s.author ++ [(parseR (trimL (l.drop (before 61 l + 1)))).2] })
    else if trimL (l.take (before 61 l)) = kEditor then
      if (parseR (trimL (l.drop (before 61 l + 1)))).1 ≠ 0 then ((parseR (trimL (l.drop (before 61 l + 1)))).1, s)
      else if 32 ≤ s.editor.length then (3, s) else (0, { s with editor := s.editor ++ [(parseR (trimL (l.drop (before 61 l + 1)))).2] })
    else if nameB (trimL (l.take (before 61 l))) = false then (6, s)
    else if trimL (l.drop (before 61 l + 1)) = [] then (17, s)
    else if hasB s.fields (trimL (l.take (before 61 l))) = true then (7, s)
    else if 24 ≤ s.fields.length then (3, s)
    else (0, { s with fields := s.fields ++ [(trimL (l.take (before 61 l)), trimL (l.drop (before 61 l + 1)))] })
  else (5, s)
/-- The cells of a reader. -/
def rdC (vD : Value) (m : Nat) (s : SrcT) (vA vE vF : Value) (ins : Bool) : Array Value := #[vD, .map (some m), .string (bs s.key), .string (bs s.type), vA, vE, vF, .bool ins]
/-- The rows of the source that is being read: each the call's own, from block T on, no two in one block. -/
structure SrcRow (w : World) (T : Nat) (s : SrcT) (vA vE vF : Value) : Prop where
  a : w.ownsRow T 32 4 vA s.author.length (persC s.author)
  e : w.ownsRow T 32 4 vE s.editor.length (persC s.editor)
  f : w.ownsRow T 62 2 vF s.fields.length (pairC s.fields)
  ae : ∀ g, vA.ownBlock = some g → vE.ownBlock ≠ some g
  af : ∀ g, vA.ownBlock = some g → vF.ownBlock ≠ some g
  ef : ∀ g, vE.ownBlock = some g → vF.ownBlock ≠ some g
theorem SrcRow.kept {w w' : World} {T : Nat} {s : SrcT} {vA vE vF : Value} (h : SrcRow w T s vA vE vF) (k : Kept w w') : SrcRow w' T s vA vE vF :=
  ⟨own_kept h.a k, own_kept h.e k, own_kept h.f k, h.ae, h.af, h.ef⟩
/-- What a reading of a line in a source leaves. -/
def AddPost (r T m : Nat) (vD : Value) (n : Int) (s' : SrcT) (w : World) (e : Ending) (w' : World) : Prop :=
  ∃ vA vE vF, e = .returned (.int .i64 n) ∧ Blk w' r 71 (rdC vD m s' vA vE vF true) ∧ SrcRow w' T s' vA vE vF ∧ Only (fun i => T ≤ i ∨ i = r) w w'
theorem AddPost.same {r T m : Nat} {vD : Value} {n : Int} {s : SrcT} {vA vE vF : Value} {w w' : World} (hb : Blk w r 71 (rdC vD m s vA vE vF true)) (hs : SrcRow w T s vA vE vF) (k : Kept w w') : AddPost r T m vD n s w (.returned (.int .i64 n)) w' :=
  ⟨vA, vE, vF, rfl, hb.kept k, hs.kept k, Only.of_kept k⟩
theorem AddPost.author {r T m : Nat} {vD : Value} {s : SrcT} {q : P4} {vA vE vF : Value} {w w1 w' : World} (hb : Blk w r 71 (rdC vD m s vA vE vF true)) (hs : SrcRow w T s vA vE vF) (k : Kept w w1) (hT : r < T) (hTs : T ≤ w.heap.size)
    (p : Pushed r 4 T 32 4 (s.author.length + 1) (persC (s.author ++ [q])) vA w1 w') : AddPost r T m vD 0 { s with author := s.author ++ [q] } w (.returned (.int .i64 0)) w' := by
  obtain ⟨⟨g, cap, hown, hat, hblk⟩, ho⟩ := p
  have h1 := hs.kept k
  have hlA := h1.a.lt
  have hlE := h1.e.lt
  have hlF := h1.f.lt
  refine ⟨.slice (some ⟨g, 0, none⟩) (s.author.length + 1) cap, vE, vF, rfl, ?_, ⟨?_, ?_, ?_, ?_, ?_, hs.ef⟩, ?_⟩
  · have := hblk _ _ (hb.kept k)
    exact this
  · simpa using hown
  · exact ho.own h1.e (fun g' h q => by
      rcases q with q | q
      · exact hs.ae g' q.symm h
      · have := (hlE g' h).1; omega)
  · exact ho.own h1.f (fun g' h q => by
      rcases q with q | q
      · exact hs.af g' q.symm h
      · have := (hlF g' h).1; omega)
  · intro g' h
    simp [Value.ownBlock] at h
    subst h
    intro q
    rcases hat with h | h
    · exact hs.ae g h q
    · have := (hlE g q).2; omega
  · intro g' h
    simp [Value.ownBlock] at h
    subst h
    intro q
    rcases hat with h | h
    · exact hs.af g h q
    · have := (hlF g q).2; omega
  · refine (Only.of_kept k).trans (ho.mono (fun i _ h => ?_))
    rcases h with h | h
    · exact .inl (hlA i h.symm).1
    · exact .inr h
theorem AddPost.editor {r T m : Nat} {vD : Value} {s : SrcT} {q : P4} {vA vE vF : Value} {w w1 w' : World} (hb : Blk w r 71 (rdC vD m s vA vE vF true)) (hs : SrcRow w T s vA vE vF) (k : Kept w w1) (hT : r < T) (hTs : T ≤ w.heap.size)
    (p : Pushed r 5 T 32 4 (s.editor.length + 1) (persC (s.editor ++ [q])) vE w1 w') : AddPost r T m vD 0 { s with editor := s.editor ++ [q] } w (.returned (.int .i64 0)) w' := by
  obtain ⟨⟨g, cap, hown, hat, hblk⟩, ho⟩ := p
  have h1 := hs.kept k
  have hlA := h1.a.lt
  have hlE := h1.e.lt
  have hlF := h1.f.lt
  refine ⟨vA, .slice (some ⟨g, 0, none⟩) (s.editor.length + 1) cap, vF, rfl, ?_, ⟨?_, ?_, ?_, ?_, hs.af, ?_⟩, ?_⟩
  · have := hblk _ _ (hb.kept k)
    exact this
  · exact ho.own h1.a (fun g' h q => by
      rcases q with q | q
      · exact hs.ae g' h q.symm
      · have := (hlA g' h).1; omega)
  · simpa using hown
  · exact ho.own h1.f (fun g' h q => by
      rcases q with q | q
      · exact hs.ef g' q.symm h
      · have := (hlF g' h).1; omega)
  · intro g' h q
    simp [Value.ownBlock] at q
    subst q
    rcases hat with h2 | h2
    · exact hs.ae g h h2
    · have := (hlA g h).2; omega
  · intro g' h
    simp [Value.ownBlock] at h
    subst h
    intro q
    rcases hat with h | h
    · exact hs.ef g h q
    · have := (hlF g q).2; omega
  · refine (Only.of_kept k).trans (ho.mono (fun i _ h => ?_))
    rcases h with h | h
    · exact .inl (hlE i h.symm).1
    · exact .inr h
theorem AddPost.field {r T m : Nat} {vD : Value} {s : SrcT} {q : Pr} {vA vE vF : Value} {w w1 w' : World} (hb : Blk w r 71 (rdC vD m s vA vE vF true)) (hs : SrcRow w T s vA vE vF) (k : Kept w w1) (hT : r < T) (hTs : T ≤ w.heap.size)
    (p : Pushed r 6 T 62 2 (s.fields.length + 1) (pairC (s.fields ++ [q])) vF w1 w') : AddPost r T m vD 0 { s with fields := s.fields ++ [q] } w (.returned (.int .i64 0)) w' := by
  obtain ⟨⟨g, cap, hown, hat, hblk⟩, ho⟩ := p
  have h1 := hs.kept k
  have hlA := h1.a.lt
  have hlE := h1.e.lt
  have hlF := h1.f.lt
  refine ⟨vA, vE, .slice (some ⟨g, 0, none⟩) (s.fields.length + 1) cap, rfl, ?_, ⟨?_, ?_, ?_, hs.ae, ?_, ?_⟩, ?_⟩
  · have := hblk _ _ (hb.kept k)
    exact this
  · exact ho.own h1.a (fun g' h q => by
      rcases q with q | q
      · exact hs.af g' h q.symm
      · have := (hlA g' h).1; omega)
  · exact ho.own h1.e (fun g' h q => by
      rcases q with q | q
      · exact hs.ef g' h q.symm
      · have := (hlE g' h).1; omega)
  · simpa using hown
  · intro g' h q
    simp [Value.ownBlock] at q
    subst q
    rcases hat with h2 | h2
    · exact hs.af g h h2
    · have := (hlA g h).2; omega
  · intro g' h q
    simp [Value.ownBlock] at q
    subst q
    rcases hat with h2 | h2
    · exact hs.ef g h h2
    · have := (hlE g h).2; omega
  · refine (Only.of_kept k).trans (ho.mono (fun i _ h => ?_))
    rcases h with h | h
    · exact .inl (hlF i h.symm).1
    · exact .inr h
end Go.Proofs.YteflhlbgbgamnaaGreatDoor
