/- (*reader).line of package bib: the other ways. Conditions: lengths. -/
import Derived.Test.YteflhlbgbgamnaaGreatDoorT22

set_option linter.all false
namespace Go.Proofs.YteflhlbgbgamnaaGreatDoor
open Go.RowKit

set_option maxRecDepth 100000 in
set_option maxHeartbeats 1600000 in
theorem line_of_begin (r : Nat) (l : Bs) (w : World) (Q : Ending → World → Prop) (hc : w.cell? ⟨r, 7, none⟩ = some (.bool false)) (hr : r < w.heap.size) (H : Calls Tryz.prog 86 #[.pointer (some ⟨r, 0, none⟩), .string (bs l)] w Q) (hQ : ∀ e w', Q e w' → ∃ n, e = .returned (.int .i64 n)) :
    Calls Tryz.prog 43 #[.pointer (some ⟨r, 0, none⟩), .string (bs l)] w Q := by
  have HH := Lib.hid H
  have HQ := Lib.hid hQ
  clear H hQ
  go_enter Tryz.func43, Tryz.ntmps43
  go_wp2_with fail
  refine HH.out.mono ?_
  intro e w1 h1
  obtain ⟨n, rfl⟩ := HQ.out e w1 h1
  have H1 := Lib.hid h1
  clear h1
  go_wp2_with fail
  exact H1.out
set_option maxRecDepth 100000 in
set_option maxHeartbeats 1600000 in
theorem line_of_add (r : Nat) (l : Bs) (w : World) (Q : Ending → World → Prop) (hc : w.cell? ⟨r, 7, none⟩ = some (.bool true)) (hr : r < w.heap.size) (hl : (l == [125]) = false) (H : Calls Tryz.prog 87 #[.pointer (some ⟨r, 0, none⟩), .string (bs l)] w Q) (hQ : ∀ e w', Q e w' → ∃ n, e = .returned (.int .i64 n)) :
    Calls Tryz.prog 43 #[.pointer (some ⟨r, 0, none⟩), .string (bs l)] w Q := by
  have HH := Lib.hid H
  have HQ := Lib.hid hQ
  clear H hQ
  have hne : ¬ l = [125] := by simpa using hl
  have hl2 : (l != [125]) = true := by simpa using hne
  go_enter Tryz.func43, Tryz.ntmps43
  go_wp2_with fail
  refine HH.out.mono ?_
  intro e w1 h1
  obtain ⟨n, rfl⟩ := HQ.out e w1 h1
  have H1 := Lib.hid h1
  clear h1
  go_wp2_with fail
  exact H1.out
set_option maxRecDepth 100000 in
set_option maxHeartbeats 1600000 in
theorem line_none (r : Nat) (vF : Value) (ps : List Pr) (w : World) (hc : w.cell? ⟨r, 7, none⟩ = some (.bool true)) (hc6 : w.cell? ⟨r, 6, none⟩ = some vF) (hr : r < w.heap.size) (hF : Prs w vF ps) (hN : ps.length ≤ 1100000) (ht : hasB ps [116, 105, 116, 108, 101] = false) :
    Calls Tryz.prog 43 #[.pointer (some ⟨r, 0, none⟩), .string (bs [125])] w fun e w' => e = .returned (.int .i64 8) ∧ Kept w w' := by
  have HH := Lib.hid (hasField_any vF ps [116, 105, 116, 108, 101] w hF hN)
  rw [ht] at HH
  obtain ⟨aF, cF, hvF, _, _⟩ := hF
  subst hvF
  clear ht
  go_enter Tryz.func43, Tryz.ntmps43
  go_wp2_with fail
  refine HH.out.mono ?_
  rintro e w1 ⟨rfl, hk1⟩
  have HK1 := Lib.hid hk1
  clear hk1 hc hc6
  go_wp2_with fail
  go_ret
  exact ⟨rfl, HK1.out⟩

/-- A source that is done, with the values of its three rows. -/
structure DoneT where
  s : SrcT
  a : Value
  e : Value
  f : Value
def doneC (ds : List DoneT) : List Value := ds.flatMap fun d => srcC d.s d.a d.e d.f
theorem doneC_snoc (ds : List DoneT) (d : DoneT) : doneC (ds ++ [d]) = doneC ds ++ srcC d.s d.a d.e d.f := by simp [doneC]
/-- The rows of a source that is done lie where nothing writes any more. -/
structure RetOK (w : World) (B T r m : Nat) (vD : Value) (d : DoneT) : Prop where
  a : w.ownsRow B 32 4 d.a d.s.author.length (persC d.s.author)
  e : w.ownsRow B 32 4 d.e d.s.editor.length (persC d.s.editor)
  f : w.ownsRow B 62 2 d.f d.s.fields.length (pairC d.s.fields)
  away : ∀ g, d.a.ownBlock = some g ∨ d.e.ownBlock = some g ∨ d.f.ownBlock = some g → g < T ∧ g ≠ r ∧ g ≠ m ∧ vD.ownBlock ≠ some g
theorem RetOK.only {S : Nat → Prop} {w w' : World} {B T r m : Nat} {vD : Value} {d : DoneT} (h : RetOK w B T r m vD d) (k : Only S w w') (hS : ∀ g, g < T → g ≠ r → g ≠ m → vD.ownBlock ≠ some g → ¬ S g) : RetOK w' B T r m vD d := by
  refine ⟨k.own h.a fun g hg => ?_, k.own h.e fun g hg => ?_, k.own h.f fun g hg => ?_, h.away⟩
  · obtain ⟨p1, p2, p3, p4⟩ := h.away g (.inl hg); exact hS g p1 p2 p3 p4
  · obtain ⟨p1, p2, p3, p4⟩ := h.away g (.inr (.inl hg)); exact hS g p1 p2 p3 p4
  · obtain ⟨p1, p2, p3, p4⟩ := h.away g (.inr (.inr hg)); exact hS g p1 p2 p3 p4
/-- What a reader is. -/
structure RSt where
  done : List DoneT
  keys : List Bs
  src : SrcT
  ins : Bool
/-- A reader in memory. -/
def RInv (B r m : Nat) (st : RSt) (w : World) : Prop :=
  ∃ T vD vA vE vF, r < B ∧ m < B ∧ r ≠ m ∧ B ≤ T ∧ r < T ∧ m < T ∧ T ≤ w.heap.size ∧ Blk w r 71 (rdC vD m st.src vA vE vF st.ins) ∧ MapK w m st.keys ∧
    w.ownsRow B 40 5 vD st.done.length (doneC st.done) ∧ (∀ g, vD.ownBlock = some g → g < T ∧ g ≠ r ∧ g ≠ m) ∧ (∀ d ∈ st.done, RetOK w B T r m vD d) ∧ SrcRow w T st.src vA vE vF ∧
    (st.ins = false → st.src = zeroS ∧ vA = nilV ∧ vE = nilV ∧ vF = nilV)
theorem RInv.kept {B r m : Nat} {st : RSt} {w w' : World} (h : RInv B r m st w) (k : Kept w w') : RInv B r m st w' := by
  obtain ⟨T, vD, vA, vE, vF, h1, h2, h3, h4, h5, h6, h7, hb, hm, hD, hD2, hR, hS, hz⟩ := h
  have ko : Only (fun _ => False) w w' := Only.of_kept k
  exact ⟨T, vD, vA, vE, vF, h1, h2, h3, h4, h5, h6, Nat.le_trans h7 k.size, hb.kept k, hm.only ko (fun q => q), own_kept hD k, hD2, fun d hd => (hR d hd).only ko (fun _ _ _ _ _ q => q), hS.kept k, hz⟩
end Go.Proofs.YteflhlbgbgamnaaGreatDoor

/- (*reader).line of package bib, whole, on a reader in memory. Conditions: lengths. -/
set_option linter.all false
namespace Go.Proofs.YteflhlbgbgamnaaGreatDoor
open Go.RowKit

/-- What a reader holds, without the values of its rows. -/
structure ASt where
  done : List SrcT
  keys : List Bs
  src : SrcT
  ins : Bool
def RSt.abs (st : RSt) : ASt := ⟨st.done.map (·.s), st.keys, st.src, st.ins⟩
/-- A line: its error, and what the reader holds behind it. -/
def lineS (st : ASt) (l : Bs) : Int × ASt :=
  if st.ins = false then
    if beginE st.keys st.done.length l ≠ 0 then (beginE st.keys st.done.length l, st)
    else (0, ⟨st.done, st.keys ++ [keyL l], ⟨keyL l, typeL l, [], [], []⟩, true⟩)
  else if l ≠ [125] then ((addS st.src l).1, { st with src := (addS st.src l).2 })
  else if hasB st.src.fields [116, 105, 116, 108, 101] = false then (8, st)
  else (0, ⟨st.done ++ [st.src], st.keys, zeroS, false⟩)
theorem lineS_err (st : ASt) (l : Bs) (h : st.ins = false) (he : beginE st.keys st.done.length l ≠ 0) : lineS st l = (beginE st.keys st.done.length l, st) := by
  unfold lineS; rw [if_pos h, if_pos he]
theorem lineS_beg (st : ASt) (l : Bs) (h : st.ins = false) (he : beginE st.keys st.done.length l = 0) : lineS st l = (0, ⟨st.done, st.keys ++ [keyL l], ⟨keyL l, typeL l, [], [], []⟩, true⟩) := by
  unfold lineS; rw [if_pos h, if_neg (by simpa using he)]
theorem lineS_add (st : ASt) (l : Bs) (h : st.ins = true) (hl : l ≠ [125]) : lineS st l = ((addS st.src l).1, { st with src := (addS st.src l).2 }) := by
  unfold lineS; rw [if_neg (by rw [h]; simp), if_pos hl]
theorem lineS_none (st : ASt) (h : st.ins = true) (ht : hasB st.src.fields [116, 105, 116, 108, 101] = false) : lineS st [125] = (8, st) := by
  unfold lineS; rw [if_neg (by rw [h]; simp), if_neg (by simp), if_pos ht]
theorem lineS_done (st : ASt) (h : st.ins = true) (ht : hasB st.src.fields [116, 105, 116, 108, 101] = true) : lineS st [125] = (0, ⟨st.done ++ [st.src], st.keys, zeroS, false⟩) := by
  unfold lineS; rw [if_neg (by rw [h]; simp), if_neg (by simp), if_neg (by rw [ht]; simp)]
theorem srcRow_nil (w : World) (T : Nat) (k t : Bs) : SrcRow w T ⟨k, t, [], [], []⟩ nilV nilV nilV :=
  ⟨World.ownsRow_nil _ _ _ _, World.ownsRow_nil _ _ _ _, World.ownsRow_nil _ _ _ _, (fun g h => by cases h), (fun g h => by cases h), (fun g h => by cases h)⟩
/-- The lists of a source are short. -/
def Small4 (s : SrcT) : Prop := s.author.length ≤ 32 ∧ s.editor.length ≤ 32 ∧ s.fields.length ≤ 24
theorem addS_small (s : SrcT) (l : Bs) (h : Small4 s) : Small4 (addS s l).2 := by
  unfold addS Small4 at *
  obtain ⟨h1, h2, h3⟩ := h
  split
  · split
    · split
      · exact ⟨h1, h2, h3⟩
      · split
        · exact ⟨h1, h2, h3⟩
        · exact ⟨by simp; omega, h2, h3⟩
    split
    · split
      · exact ⟨h1, h2, h3⟩
      · split
        · exact ⟨h1, h2, h3⟩
        · exact ⟨h1, by simp; omega, h3⟩
    split
    · exact ⟨h1, h2, h3⟩
    split
    · exact ⟨h1, h2, h3⟩
    split
    · exact ⟨h1, h2, h3⟩
    split
    · exact ⟨h1, h2, h3⟩
    · exact ⟨h1, h2, by simp; omega⟩
  · exact ⟨h1, h2, h3⟩
def LinePost (B r m : Nat) (st : RSt) (l : Bs) (w : World) (e : Ending) (w' : World) : Prop :=
  ∃ st', e = .returned (.int .i64 (lineS st.abs l).1) ∧ st'.abs = (lineS st.abs l).2 ∧ RInv B r m st' w' ∧ Only (fun i => B ≤ i ∨ i = r ∨ i = m) w w'
theorem slice_form {w : World} {base : Nat} {e : TypeId} {size : Nat} {v : Value} {n : Nat} {xs : List Value} (h : w.ownsRow base e size v n xs) : ∃ a c, v = .slice a n c := by
  obtain ⟨a, c, hv, _⟩ := own_cap h
  exact ⟨a, c, hv⟩
theorem Below.of_kept {B : Nat} {w w' : World} (h : Kept w w') (hB : B ≤ w.heap.size) : Below B w w' := Below.mono h hB

theorem bline_any (B r m : Nat) (st : RSt) (l : Bs) (w : World) (hg : Gnd w) (hl : l.length ≤ 100000) (hI : RInv B r m st w) (hs : Small4 st.src) (hn : st.done.length ≤ 1100000) :
    Calls Tryz.prog 43 #[.pointer (some ⟨r, 0, none⟩), .string (bs l)] w (LinePost B r m st l w) := by
  have hI0 := hI
  obtain ⟨T, vD, vA, vE, vF, h1, h2, h3, h4, h5, h6, h7, hb, hm, hD, hD2, hR, hS, hz⟩ := hI
  have hBs : B ≤ w.heap.size := by omega
  have hrl := hb.lt
  have elen : st.abs.done.length = st.done.length := by simp [RSt.abs]
  unfold LinePost
  cases hi : st.ins
  · -- a source begins
    have ha : st.abs.ins = false := hi
    obtain ⟨hz1, hz2, hz3, hz4⟩ := hz hi
    rw [hi, hz1, hz2, hz3, hz4] at hb
    obtain ⟨aD, cD, hvD⟩ := slice_form hD
    subst hvD
    refine line_of_begin r l w _ (hb.cell 7 _ rfl) hrl ?_ (fun e w' h => by obtain ⟨st', he, _⟩ := h; exact ⟨_, he⟩)
    by_cases he : beginE st.keys st.done.length l = 0
    · refine (begin_yes r m st.done.length aD cD st.keys l w hg hl hb hm h3 (by omega) he).mono ?_
      rintro e w' ⟨rfl, hb', hm', ho⟩
      refine ⟨⟨st.done, st.keys ++ [keyL l], ⟨keyL l, typeL l, [], [], []⟩, true⟩, ?_, ?_, ?_, ?_⟩
      · rw [lineS_beg st.abs l ha (by rw [elen]; exact he)]
      · rw [lineS_beg st.abs l ha (by rw [elen]; exact he)]; rfl
      · refine ⟨w.heap.size, .slice aD st.done.length cD, nilV, nilV, nilV, h1, h2, h3, by omega, hrl, by omega, ho.size, hb', hm', ?_, ?_, ?_, ?_, fun q => by cases q⟩
        · exact ho.own hD (fun g hg q => by obtain ⟨_, p2, p3⟩ := hD2 g hg; rcases q with q | q; exact p2 q; exact p3 q)
        · intro g hg; obtain ⟨p1, p2, p3⟩ := hD2 g hg; exact ⟨by omega, p2, p3⟩
        · intro d hd
          have hd' := hR d hd
          have := hd'.only ho (fun g p1 p2 p3 p4 q => by rcases q with q | q; exact p2 q; exact p3 q)
          exact ⟨this.a, this.e, this.f, fun g hg => by obtain ⟨p1, p2, p3, p4⟩ := this.away g hg; exact ⟨by omega, p2, p3, p4⟩⟩
        · exact srcRow_nil _ _ _ _
      · exact ho.mono (fun i _ q => .inr q)
    · refine (begin_err r m st.done.length aD cD st.keys l w hg hl hb hm h3 (by omega) he).mono ?_
      rintro e w' ⟨rfl, hk⟩
      refine ⟨st, ?_, ?_, hI0.kept hk, Only.of_kept hk⟩
      · rw [lineS_err st.abs l ha (by rw [elen]; exact he), elen]; rfl
      · rw [lineS_err st.abs l ha (by rw [elen]; exact he)]
  · have ha : st.abs.ins = true := hi
    rw [hi] at hb
    by_cases hq : l = [125]
    · subst hq
      cases ht : hasB st.src.fields [116, 105, 116, 108, 101]
      · refine (line_none r vF st.src.fields w (hb.cell 7 _ rfl) (hb.cell 6 _ rfl) hrl (Prs.own hS.f) (by have := hs.2.2; omega) ht).mono ?_
        rintro e w' ⟨rfl, hk⟩
        refine ⟨st, ?_, ?_, hI0.kept hk, Only.of_kept hk⟩
        · rw [lineS_none st.abs ha ht]
        · rw [lineS_none st.abs ha ht]
      · obtain ⟨aA, cA, hvA⟩ := slice_form hS.a
        obtain ⟨aE, cE, hvE⟩ := slice_form hS.e
        refine (line_done B r m st.done.length (doneC st.done) vD st.src vA vE vF w hb hD (fun q => by have := (hD2 r q.symm).2.1; exact this rfl) hBs (Prs.own hS.f) ⟨_, _, _, hvA⟩ ⟨_, _, _, hvE⟩ (by have := hs.2.2; omega) (by omega) ht).mono ?_
        rintro e w' ⟨rfl, g, cap, hown, hat, hlt, hb', ho⟩
        have hDl := hD.lt
        have hAl := hS.a.lt
        have hEl := hS.e.lt
        have hFl := hS.f.lt
        have hgT : vD.ownBlock = some g → g < T ∧ g ≠ r ∧ g ≠ m := fun q => hD2 g q
        have hgr : g ≠ r ∧ g ≠ m := by
          rcases hat with q | q
          · exact (hD2 g q).2
          · exact ⟨by omega, by omega⟩
        refine ⟨⟨st.done ++ [⟨st.src, vA, vE, vF⟩], st.keys, zeroS, false⟩, ?_, ?_, ?_, ?_⟩
        · rw [lineS_done st.abs ha ht]
        · rw [lineS_done st.abs ha ht]
          simp [RSt.abs]
        · refine ⟨w'.heap.size, .slice (some ⟨g, 0, none⟩) (st.done.length + 1) cap, nilV, nilV, nilV, h1, h2, h3, ?_, hb'.lt, ?_, Nat.le_refl _, hb', ?_, ?_, ?_, ?_, ?_, fun _ => ⟨rfl, rfl, rfl, rfl⟩⟩
          · have := ho.size; omega
          · have := ho.size; omega
          · exact hm.only ho (fun q => by
              rcases q with q | q
              · exact (hD2 m q.symm).2.2 rfl
              · exact h3 q.symm)
          · rw [doneC_snoc]; simpa using hown
          · intro g' hg'
            simp [Value.ownBlock] at hg'
            subst hg'
            exact ⟨hlt, hgr.1, hgr.2⟩
          · intro d hd
            rcases List.mem_append.1 hd with hd | hd
            · have hd' := hR d hd
              have h := hd'.only ho (fun g' p1 p2 p3 p4 q => by
                rcases q with q | q
                · exact p4 q.symm
                · exact p2 q)
              refine ⟨h.a, h.e, h.f, fun g' hg' => ?_⟩
              obtain ⟨p1, p2, p3, p4⟩ := hd'.away g' hg'
              refine ⟨by have := ho.size; omega, p2, p3, ?_⟩
              intro q
              simp [Value.ownBlock] at q
              subst q
              rcases hat with q | q
              · exact p4 q
              · omega
            · simp at hd
              subst hd
              have nS : ∀ g', T ≤ g' → ¬ (some g' = vD.ownBlock ∨ g' = r) := by
                rintro g' p (q | q)
                · have := (hD2 g' q.symm).1; omega
                · omega
              refine ⟨own_mono (ho.own hS.a (fun g' q => nS g' (hAl g' q).1)) h4, own_mono (ho.own hS.e (fun g' q => nS g' (hEl g' q).1)) h4, own_mono (ho.own hS.f (fun g' q => nS g' (hFl g' q).1)) h4, fun g' hg' => ?_⟩
              have hg2 : T ≤ g' ∧ g' < w.heap.size := by
                rcases hg' with q | q | q
                · exact hAl g' q
                · exact hEl g' q
                · exact hFl g' q
              refine ⟨by have := ho.size; omega, by omega, by omega, ?_⟩
              intro q
              simp [Value.ownBlock] at q
              subst q
              rcases hat with q | q
              · have := (hD2 g q).1; omega
              · omega
          · exact srcRow_nil _ _ _ _
        · exact ho.mono (fun i _ q => by
            rcases q with q | q
            · exact .inl (hDl i q.symm).1
            · exact .inr (.inl q))
    · refine line_of_add r l w _ (hb.cell 7 _ rfl) hrl (by simpa using hq) ?_ (fun e w' h => by obtain ⟨st', he, _⟩ := h; exact ⟨_, he⟩)
      refine (add_any r T m vD st.src vA vE vF l w hg hl hb hS h5 h7 (by have := hs.1; omega) (by have := hs.2.1; omega) (by have := hs.2.2; omega)).mono ?_
      rintro e w' ⟨vA', vE', vF', rfl, hb', hS', ho⟩
      refine ⟨⟨st.done, st.keys, (addS st.src l).2, true⟩, ?_, ?_, ?_, ?_⟩
      · rw [lineS_add st.abs l ha hq]; rfl
      · rw [lineS_add st.abs l ha hq]
        show (⟨_, _, _, true⟩ : ASt) = ⟨_, _, _, st.ins⟩
        rw [hi]; rfl
      · refine ⟨T, vD, vA', vE', vF', h1, h2, h3, h4, h5, h6, Nat.le_trans h7 ho.size, hb', ?_, ?_, hD2, ?_, hS', fun q => by cases q⟩
        · exact hm.only ho (fun q => by rcases q with q | q; omega; exact h3 q.symm)
        · exact ho.own hD (fun g hg q => by obtain ⟨p1, p2, p3⟩ := hD2 g hg; rcases q with q | q; omega; exact p2 q)
        · intro d hd
          exact (hR d hd).only ho (fun g p1 p2 p3 p4 q => by rcases q with q | q; omega; exact p2 q)
      · exact ho.mono (fun i _ q => by rcases q with q | q; exact .inl (by omega); exact .inr (.inl q))
end Go.Proofs.YteflhlbgbgamnaaGreatDoor
