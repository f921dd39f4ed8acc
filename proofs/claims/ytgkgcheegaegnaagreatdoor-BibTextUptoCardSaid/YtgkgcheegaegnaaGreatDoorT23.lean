/- (*reader).line of package bib: the end of a source. Conditions: lengths. -/
import Derived.Test.YtgkgcheegaegnaaGreatDoorT22

set_option linter.all false
namespace Go.Proofs.YtgkgcheegaegnaaGreatDoor
open Go.RowKit

theorem Tryz.infoSrc : (Tryz.prog.info? 44).map (fun i => (i.zero, i.size, i.bytes)) = some (some (.agg #[.string ⟨#[]⟩, .string ⟨#[]⟩, .slice none 0 0, .slice none 0 0, .slice none 0 0]), 5, 104) := by kernel_rfl
def srcC (s : SrcT) (vA vE vF : Value) : List Value := [.string (bs s.key), .string (bs s.type), vA, vE, vF]
def kTitle : Bs := [116, 105, 116, 108, 101]
/-- The stores of a source's end. -/
def setEnd (w : World) (r : Nat) (vD : Value) : World := ((((((w.setCell ⟨r, 0, none⟩ vD).setCell ⟨r, 2, none⟩ (.string (bs []))).setCell ⟨r, 3, none⟩ (.string (bs []))).setCell ⟨r, 4, none⟩ nilV).setCell ⟨r, 5, none⟩ nilV).setCell ⟨r, 6, none⟩ nilV).setCell ⟨r, 7, none⟩ (.bool false)
theorem setEnd_only (w : World) (r : Nat) (vD : Value) : Only (fun i => i = r) w (setEnd w r vD) :=
  ((((((Only.setCell r 0 _).trans (Only.setCell r 2 _)).trans (Only.setCell r 3 _)).trans (Only.setCell r 4 _)).trans (Only.setCell r 5 _)).trans (Only.setCell r 6 _)).trans (Only.setCell r 7 _)
theorem setEnd_blk {w : World} {r m : Nat} {vD : Value} {s : SrcT} {vA vE vF : Value} (vD' : Value) (h2 : Blk w r 55 (rdC vD m s vA vE vF true)) : Blk (setEnd w r vD') r 55 (rdC vD' m zeroS nilV nilV nilV false) := by
  have h := set_blk (o := 7) (set_blk (o := 6) (set_blk (o := 5) (set_blk (o := 4) (set_blk (o := 3) (set_blk (o := 2) (set_blk (o := 0) h2 vD') (.string (bs []))) (.string (bs []))) nilV) nilV) nilV) (.bool false)
  have e : (((((((rdC vD m s vA vE vF true).setIfInBounds 0 vD').setIfInBounds 2 (.string (bs []))).setIfInBounds 3 (.string (bs []))).setIfInBounds 4 nilV).setIfInBounds 5 nilV).setIfInBounds 6 nilV).setIfInBounds 7 (.bool false) = rdC vD' m zeroS nilV nilV nilV false := by
    simp [rdC, zeroS]
  rw [e] at h
  unfold setEnd
  exact h
/-- What the end of a source leaves. -/
def DonePost (B r m n : Nat) (xs : List Value) (vD : Value) (w : World) (e : Ending) (w' : World) : Prop :=
  e = .returned (.int .i64 0) ∧ ∃ g cap, w'.ownsRow B 44 5 (.slice (some ⟨g, 0, none⟩) n cap) n xs ∧ (vD.ownBlock = some g ∨ w.heap.size ≤ g) ∧ g < w'.heap.size ∧
    Blk w' r 55 (rdC (.slice (some ⟨g, 0, none⟩) n cap) m zeroS nilV nilV nilV false) ∧ Only (fun i => some i = vD.ownBlock ∨ i = r) w w'
theorem done_of {B r m n : Nat} {xs : List Value} {vD : Value} {s : SrcT} {vA vE vF : Value} {w wa w3 : World} {g cap : Nat} (hk : Kept w wa) (hg : wa.grownBy w3 vD.ownBlock) (hO : w3.ownsRow B 44 5 (.slice (some ⟨g, 0, none⟩) n cap) n xs)
    (hat : vD.ownBlock = some g ∨ w.heap.size ≤ g) (hlt : g < w3.heap.size) (hne : some r ≠ vD.ownBlock) (hB : Blk w r 55 (rdC vD m s vA vE vF true)) :
    DonePost B r m n xs vD w (.returned (.int .i64 0)) (setEnd w3 r (.slice (some ⟨g, 0, none⟩) n cap)) := by
  have hrl := hB.lt
  have hgr : g ≠ r := by
    rintro rfl
    rcases hat with h | h
    · exact hne h.symm
    · omega
  refine ⟨rfl, g, cap, ?_, hat, ?_, ?_, ?_⟩
  · exact (setEnd_only w3 r _).own hO (fun g' h q => by simp [Value.ownBlock] at h; omega)
  · have := (setEnd_only w3 r (.slice (some ⟨g, 0, none⟩) n cap)).size; omega
  · have h1 := hB.kept hk
    have h2 : Blk w3 r 55 (rdC vD m s vA vE vF true) := (hg.block r (by have := hk.size; omega) hne).trans h1
    exact setEnd_blk _ h2
  · exact (Only.of_kept hk).trans (((Only.grown hg).mono (fun i _ h => .inl h)).trans ((setEnd_only w3 r _).mono (fun i _ h => .inr h)))

set_option maxRecDepth 100000 in
set_option maxHeartbeats 6400000 in
theorem line_done (B r m n : Nat) (xs : List Value) (vD : Value) (s : SrcT) (vA vE vF : Value) (w : World) (hb : Blk w r 55 (rdC vD m s vA vE vF true)) (hD : w.ownsRow B 44 5 vD n xs) (hne : some r ≠ vD.ownBlock) (hBs : B ≤ w.heap.size)
    (hF : Prs w vF s.fields) (hA1 : ∃ a k c, vA = .slice a k c) (hE1 : ∃ a k c, vE = .slice a k c) (hfl : s.fields.length ≤ 1100000) (hn : n ≤ 1100000) (ht : hasB s.fields [116, 105, 116, 108, 101] = true) :
    Calls Tryz.prog 25 #[.pointer (some ⟨r, 0, none⟩), .string (bs [125])] w (DonePost B r m (n + 1) (xs ++ srcC s vA vE vF) vD w) := by
  obtain ⟨i0, hi, hz0, hz1, hz2⟩ := info_parts Tryz.infoSrc
  have HH := Lib.hid (hasField_any vF s.fields [116, 105, 116, 108, 101] w hF hfl)
  rw [ht] at HH
  obtain ⟨aD, cD, hvD, hcD, _, _⟩ := own_cap hD
  have HD := Lib.hid hD
  have HB := Lib.hid hb
  have HNE := Lib.hid hne
  have HSC : Hid (srcC s vA vE vF = [.string (bs s.key), .string (bs s.type), vA, vE, vF]) := rfl
  obtain ⟨aF, cF, hvF, _, _⟩ := hF
  obtain ⟨aA, kA, cA, rfl⟩ := hA1
  obtain ⟨aE, kE, cE, rfl⟩ := hE1
  subst hvF hvD
  clear hb hD hne ht
  have c7 : w.cell? ⟨r, 7, none⟩ = some (.bool true) := HB.out.cell 7 _ rfl
  have c6 : w.cell? ⟨r, 6, none⟩ = some (.slice aF s.fields.length cF) := HB.out.cell 6 _ rfl
  have z := HB.out.lt
  go_enter Tryz.func25, Tryz.ntmps25
  go_wp2_with fail
  refine HH.out.mono ?_
  rintro e w1 ⟨rfl, hk1⟩
  have HK1 := Lib.hid hk1
  have HB1 := Lib.hid (HB.out.kept hk1)
  have HD1 := Lib.hid (own_kept HD.out hk1)
  clear hk1 c7 c6
  have d0 : w1.cell? ⟨r, 0, none⟩ = some (.slice aD n cD) := HB1.out.cell 0 _ rfl
  have d2 : w1.cell? ⟨r, 2, none⟩ = some (.string (bs s.key)) := HB1.out.cell 2 _ rfl
  have d3 : w1.cell? ⟨r, 3, none⟩ = some (.string (bs s.type)) := HB1.out.cell 3 _ rfl
  have d4 : w1.cell? ⟨r, 4, none⟩ = some (.slice aA kA cA) := HB1.out.cell 4 _ rfl
  have d5 : w1.cell? ⟨r, 5, none⟩ = some (.slice aE kE cE) := HB1.out.cell 5 _ rfl
  have d6 : w1.cell? ⟨r, 6, none⟩ = some (.slice aF s.fields.length cF) := HB1.out.cell 6 _ rfl
  have z1 := HB1.out.lt
  have hB1 : B ≤ w1.heap.size := by have := HK1.out.size; omega
  have HNEWS := Lib.hid (World.news_of_block (w := (w1.alloc (.cells #[.string (bs s.key), .string (bs s.type), .slice aA kA cA, .slice aE kE cE, .slice aF s.fields.length cF] 44)).drew) (B := w1.heap.size) (cs := #[.string (bs s.key), .string (bs s.type), .slice aA kA cA, .slice aE kE cE, .slice aF s.fields.length cF]) (t := 44) (fr := (0, 0)) (heap_alloc_new w1 _))
  have HRB := Lib.hid (((HB1.out.alloc (.cells #[.string (bs s.key), .string (bs s.type), .slice aA kA cA, .slice aE kE cE, .slice aF s.fields.length cF] 44)).kept (kept_drewN _ 1)))
  go_wp2_with fail
  go_region_law ((refine step_append_lies _ rfl (.tmp 32) (.tmp 37) 23 rfl B 44 i0 _ 5 104 Tryz.underlying23 hi hz0 hz1 hz2 rfl (by omega) (.slice aD n cD) n xs (by simp [Act.eval, Act.put]) ((HD1.out.alloc _).drew) ⟨w1.heap.size, 0, none⟩ 1 1 [.string (bs s.key), .string (bs s.type), .slice aA kA cA, .slice aE kE cE, .slice aF s.fields.length cF] (by simp [Act.eval, Act.put]) rfl HNEWS.out (by simp [Value.oneCell']) (by omega) (by unfold maxLen; omega) (by omega) (by simp; omega) (w1.heap.size + 1) (by simp) ?_; intro g cap w3 hown3 hgrow hat hlt; have hrb := hgrow.block r (by simp; omega) HNE.out; have HRW := Lib.hid (show Blk w3 r 55 (rdC (.slice aD n cD) m s (.slice aA kA cA) (.slice aE kE cE) (.slice aF s.fields.length cF) true) from hrb.trans HRB.out); have f3 : w3.cell? ⟨r, 0, none⟩ = some (.slice aD n cD) := HRW.out.cell 0 _ rfl; have f4 : w3.frozen? ⟨r, 0, none⟩ = false := HRW.out.free 0; have z3 := HRW.out.lt; have HG3 := Lib.hid hgrow; have HO3 := Lib.hid hown3; have HAT := Lib.hid hat; have HLT := Lib.hid hlt; clear hgrow hown3 hat hrb hlt))
  all_goals
    have k2 : w3.cell? ⟨r, 2, none⟩ = some (.string (bs s.key)) := HRW.out.cell 2 _ rfl
    have k3 : w3.cell? ⟨r, 3, none⟩ = some (.string (bs s.type)) := HRW.out.cell 3 _ rfl
    have k4 : w3.cell? ⟨r, 4, none⟩ = some (.slice aA kA cA) := HRW.out.cell 4 _ rfl
    have k5 : w3.cell? ⟨r, 5, none⟩ = some (.slice aE kE cE) := HRW.out.cell 5 _ rfl
    have k6 : w3.cell? ⟨r, 6, none⟩ = some (.slice aF s.fields.length cF) := HRW.out.cell 6 _ rfl
    have k7 : w3.cell? ⟨r, 7, none⟩ = some (.bool true) := HRW.out.cell 7 _ rfl
    have g2 := HRW.out.free 2
    have g3 := HRW.out.free 3
    have g4 := HRW.out.free 4
    have g5 := HRW.out.free 5
    have g6 := HRW.out.free 6
    have g7 := HRW.out.free 7
    go_wp2_with fail
    go_ret
    refine done_of ((HK1.out.trans (kept_alloc w1 _)).trans (kept_drewN _ 1)) HG3.out (by rw [HSC.out]; exact HO3.out) ?_ HLT.out HNE.out HB.out
    rcases HAT.out with h | h
    · exact .inl h
    · have := HK1.out.size; exact .inr (by omega)
end Go.Proofs.YtgkgcheegaegnaaGreatDoor

/- (*reader).line of package bib: the other ways. Conditions: lengths. -/
set_option linter.all false
namespace Go.Proofs.YtgkgcheegaegnaaGreatDoor
open Go.RowKit

set_option maxRecDepth 100000 in
set_option maxHeartbeats 1600000 in
theorem line_of_begin (r : Nat) (l : Bs) (w : World) (Q : Ending → World → Prop) (hc : w.cell? ⟨r, 7, none⟩ = some (.bool false)) (hr : r < w.heap.size) (H : Calls Tryz.prog 47 #[.pointer (some ⟨r, 0, none⟩), .string (bs l)] w Q) (hQ : ∀ e w', Q e w' → ∃ n, e = .returned (.int .i64 n)) :
    Calls Tryz.prog 25 #[.pointer (some ⟨r, 0, none⟩), .string (bs l)] w Q := by
  have HH := Lib.hid H
  have HQ := Lib.hid hQ
  clear H hQ
  go_enter Tryz.func25, Tryz.ntmps25
  go_wp2_with fail
  refine HH.out.mono ?_
  intro e w1 h1
  obtain ⟨n, rfl⟩ := HQ.out e w1 h1
  have H1 := Lib.hid h1
  clear h1
  go_wp2_with fail
  exact H1.out
set_option maxRecDepth 100000 in
set_option maxHeartbeats 1600000 in
theorem line_of_add (r : Nat) (l : Bs) (w : World) (Q : Ending → World → Prop) (hc : w.cell? ⟨r, 7, none⟩ = some (.bool true)) (hr : r < w.heap.size) (hl : (l == [125]) = false) (H : Calls Tryz.prog 48 #[.pointer (some ⟨r, 0, none⟩), .string (bs l)] w Q) (hQ : ∀ e w', Q e w' → ∃ n, e = .returned (.int .i64 n)) :
    Calls Tryz.prog 25 #[.pointer (some ⟨r, 0, none⟩), .string (bs l)] w Q := by
  have HH := Lib.hid H
  have HQ := Lib.hid hQ
  clear H hQ
  have hne : ¬ l = [125] := by simpa using hl
  have hl2 : (l != [125]) = true := by simpa using hne
  go_enter Tryz.func25, Tryz.ntmps25
  go_wp2_with fail
  refine HH.out.mono ?_
  intro e w1 h1
  obtain ⟨n, rfl⟩ := HQ.out e w1 h1
  have H1 := Lib.hid h1
  clear h1
  go_wp2_with fail
  exact H1.out
set_option maxRecDepth 100000 in
set_option maxHeartbeats 1600000 in
theorem line_none (r : Nat) (vF : Value) (ps : List Pr) (w : World) (hc : w.cell? ⟨r, 7, none⟩ = some (.bool true)) (hc6 : w.cell? ⟨r, 6, none⟩ = some vF) (hr : r < w.heap.size) (hF : Prs w vF ps) (hN : ps.length ≤ 1100000) (ht : hasB ps [116, 105, 116, 108, 101] = false) :
    Calls Tryz.prog 25 #[.pointer (some ⟨r, 0, none⟩), .string (bs [125])] w fun e w' => e = .returned (.int .i64 8) ∧ Kept w w' := by
  have HH := Lib.hid (hasField_any vF ps [116, 105, 116, 108, 101] w hF hN)
  rw [ht] at HH
  obtain ⟨aF, cF, hvF, _, _⟩ := hF
  subst hvF
  clear ht
  go_enter Tryz.func25, Tryz.ntmps25
  go_wp2_with fail
  refine HH.out.mono ?_
  rintro e w1 ⟨rfl, hk1⟩
  have HK1 := Lib.hid hk1
  clear hk1 hc hc6
  go_wp2_with fail
  go_ret
  exact ⟨rfl, HK1.out⟩

/-- A source that is done, with the values of its three rows. -/
structure DoneT where
  s : SrcT
  a : Value
  e : Value
  f : Value
def doneC (ds : List DoneT) : List Value := ds.flatMap fun d => srcC d.s d.a d.e d.f
theorem doneC_snoc (ds : List DoneT) (d : DoneT) : doneC (ds ++ [d]) = doneC ds ++ srcC d.s d.a d.e d.f := by simp [doneC]
/-- The rows of a source that is done lie where nothing writes any more. -/
structure RetOK (w : World) (B T r m : Nat) (vD : Value) (d : DoneT) : Prop where
  a : w.ownsRow B 36 4 d.a d.s.author.length (persC d.s.author)
  e : w.ownsRow B 36 4 d.e d.s.editor.length (persC d.s.editor)
  f : w.ownsRow B 47 2 d.f d.s.fields.length (pairC d.s.fields)
  away : ∀ g, d.a.ownBlock = some g ∨ d.e.ownBlock = some g ∨ d.f.ownBlock = some g → g < T ∧ g ≠ r ∧ g ≠ m ∧ vD.ownBlock ≠ some g
theorem RetOK.only {S : Nat → Prop} {w w' : World} {B T r m : Nat} {vD : Value} {d : DoneT} (h : RetOK w B T r m vD d) (k : Only S w w') (hS : ∀ g, g < T → g ≠ r → g ≠ m → vD.ownBlock ≠ some g → ¬ S g) : RetOK w' B T r m vD d := by
  refine ⟨k.own h.a fun g hg => ?_, k.own h.e fun g hg => ?_, k.own h.f fun g hg => ?_, h.away⟩
  · obtain ⟨p1, p2, p3, p4⟩ := h.away g (.inl hg); exact hS g p1 p2 p3 p4
  · obtain ⟨p1, p2, p3, p4⟩ := h.away g (.inr (.inl hg)); exact hS g p1 p2 p3 p4
  · obtain ⟨p1, p2, p3, p4⟩ := h.away g (.inr (.inr hg)); exact hS g p1 p2 p3 p4
/-- What a reader is. -/
structure RSt where
  done : List DoneT
  keys : List Bs
  src : SrcT
  ins : Bool
/-- A reader in memory. -/
def RInv (B r m : Nat) (st : RSt) (w : World) : Prop :=
  ∃ T vD vA vE vF, r < B ∧ m < B ∧ r ≠ m ∧ B ≤ T ∧ r < T ∧ m < T ∧ T ≤ w.heap.size ∧ Blk w r 55 (rdC vD m st.src vA vE vF st.ins) ∧ MapK w m st.keys ∧
    w.ownsRow B 44 5 vD st.done.length (doneC st.done) ∧ (∀ g, vD.ownBlock = some g → g < T ∧ g ≠ r ∧ g ≠ m) ∧ (∀ d ∈ st.done, RetOK w B T r m vD d) ∧ SrcRow w T st.src vA vE vF ∧
    (st.ins = false → st.src = zeroS ∧ vA = nilV ∧ vE = nilV ∧ vF = nilV)
theorem RInv.kept {B r m : Nat} {st : RSt} {w w' : World} (h : RInv B r m st w) (k : Kept w w') : RInv B r m st w' := by
  obtain ⟨T, vD, vA, vE, vF, h1, h2, h3, h4, h5, h6, h7, hb, hm, hD, hD2, hR, hS, hz⟩ := h
  have ko : Only (fun _ => False) w w' := Only.of_kept k
  exact ⟨T, vD, vA, vE, vF, h1, h2, h3, h4, h5, h6, Nat.le_trans h7 k.size, hb.kept k, hm.only ko (fun q => q), own_kept hD k, hD2, fun d hd => (hR d hd).only ko (fun _ _ _ _ _ q => q), hS.kept k, hz⟩
end Go.Proofs.YtgkgcheegaegnaaGreatDoor
