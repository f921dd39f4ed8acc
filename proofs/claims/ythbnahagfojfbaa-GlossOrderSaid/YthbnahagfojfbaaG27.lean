/- survey.mark, where no definition is in another. Conditions: lengths. -/
import Derived.Test.YthbnahagfojfbaaG21
import Derived.Test.YthbnahagfojfbaaG26
import Derived.Laws.OwnMore

set_option linter.all false
namespace Go.Proofs.Ythbnahagfojfbaa
open Go.RowKit

theorem Try.infoBool : (Try.prog.info? 4).map (fun i => (i.zero, i.size, i.bytes)) = some (some (.bool false), 1, 1) := by kernel_rfl
/-- A truth value in one cell. -/
def BoolK (_ : Nat → Prop) (_ : World) (cs : List Value) (x : Bool) : Prop := cs = [.bool x]
theorem boolK : ReadK BoolK := ⟨fun h _ _ => h, fun h u hu => by rw [h] at hu; simp at hu; subst hu; rfl⟩
/-- The survey with its marks. -/
structure SvD (N D B : Nat) (ns : List Bs) (us : List Inl) (dn : List Bool) (td : List Int) (w : World) (v1 v2 v3 vd vt : Value) (esN : List (Bs × Value)) : Prop where
  blk : Blk w (B + 5) 93 #[v1, v2, .map (some (B + 1)), .map (some (B + 2)), .map (some (B + 3)), .map (some (B + 4)), vd, vt]
  names : OutG StrK 1 (fun _ => False) (B + 6) 9 w v1 ns
  pars : OutG IntK 1 (fun _ => False) (B + 6) 3 w v2 (List.replicate ns.length (-1))
  wants : OutG (InlK N) 10 (fun g => g < D) (B + 6) 41 w v3 us
  done : OutG BoolK 1 (fun _ => False) (B + 6) 4 w vd dn
  todo : OutG IntK 1 (fun _ => False) (B + 6) 3 w vt td
  apart : ∀ g, v2.ownBlock = some g → vt.ownBlock ≠ some g
  nil : us = [] → v3 = .slice none 0 0
  mw : MapV w (B + 1) (wantsE v3 us)
  mn : MapT w (B + 2) esN
  inn : ∀ (i : Nat) (nm : Bs), ns[i]? = some nm → getT esN nm = some (.int .i64 i)
  out : ∀ k, k ∉ ns → getT esN k = none
  dlen : dn.length = ns.length
  tpos : ∀ t ∈ td, (0 : Int) ≤ t
theorem SvD.kept {N D B : Nat} {ns : List Bs} {us : List Inl} {dn : List Bool} {td : List Int} {w w' : World} {v1 v2 v3 vd vt : Value} {esN : List (Bs × Value)} (h : SvD N D B ns us dn td w v1 v2 v3 vd vt esN) (k : Kept w w') : SvD N D B ns us dn td w' v1 v2 v3 vd vt esN :=
  ⟨h.blk.kept k, h.names.kept strK k, h.pars.kept intK k, h.wants.kept (inlK N) k, h.done.kept boolK k, h.todo.kept intK k, h.apart, h.nil, h.mw.kept k, h.mn.kept k, h.inn, h.out, h.dlen, h.tpos⟩
/-- A mark is set. -/
theorem SvD.mark {N D B : Nat} {ns : List Bs} {us : List Inl} {dn : List Bool} {td : List Int} {w : World} {v1 v2 v3 vt : Value} {g n c : Nat} {esN : List (Bs × Value)} (h : SvD N D B ns us dn td w v1 v2 v3 (.slice (some ⟨g, 0, none⟩) n c) vt esN) (hD : D ≤ B) (i : Nat) (hi : i < dn.length) :
    SvD N D B ns us (dn.set i true) td (w.setCell ⟨g, i, none⟩ (.bool true)) v1 v2 v3 (.slice (some ⟨g, 0, none⟩) n c) vt esN ∧ Only (fun j => B + 6 ≤ j) w (w.setCell ⟨g, i, none⟩ (.bool true)) := by
  have hg := h.done.blk g rfl
  have k := Only.setCell (w := w) g i (.bool true)
  have hput := h.done.put boolK i hi [.bool true] true rfl rfl
  rw [Nat.mul_one] at hput
  refine ⟨⟨h.blk.onl k (by omega), h.names.only strK k (fun _ _ h => h.elim) (fun g' q r => h.names.ne h.done (by decide) g' q (by rw [r]; rfl)), h.pars.only intK k (fun _ _ h => h.elim) (fun g' q r => h.pars.ne h.done (by decide) g' q (by rw [r]; rfl)), h.wants.only (inlK N) k (fun g' _ q _ r => by omega) (fun g' q r => h.wants.ne h.done (by decide) g' q (by rw [r]; rfl)), hput, h.todo.only intK k (fun _ _ h => h.elim) (fun g' q r => h.todo.ne h.done (by decide) g' q (by rw [r]; rfl)), h.apart, h.nil, h.mw.only k (by omega), h.mn.only k (by omega), h.inn, h.out, by rw [List.length_set]; exact h.dlen, h.tpos⟩, k.mono (fun j _ q => by omega)⟩
/-- A number is put on the list of what is still to be looked at. -/
theorem SvD.push {N D B : Nat} {ns : List Bs} {us : List Inl} {dn : List Bool} {td : List Int} {w w7 : World} {v1 v2 v3 vd vt : Value} {g cap : Nat} {esN : List (Bs × Value)} {x : Int} (h : SvD N D B ns us dn td w v1 v2 v3 vd vt esN) (hD : D ≤ B) (hx : 0 ≤ x) (hgr : w.grownBy w7 vt.ownBlock) (ho : OutG IntK 1 (fun _ => False) (B + 6) 3 w7 (.slice (some ⟨g, 0, none⟩) (td.length + 1) cap) (td ++ [x])) (hat : vt.ownBlock = some g ∨ g = w.heap.size) :
    SvD N D B ns us dn (td ++ [x]) (w7.setCell ⟨B + 5, 7, none⟩ (.slice (some ⟨g, 0, none⟩) (td.length + 1) cap)) v1 v2 v3 vd (.slice (some ⟨g, 0, none⟩) (td.length + 1) cap) esN ∧ Only (fun j => B + 1 ≤ j) w (w7.setCell ⟨B + 5, 7, none⟩ (.slice (some ⟨g, 0, none⟩) (td.length + 1) cap)) := by
  have o1 := Only.grown hgr
  have hb : ∀ g, vt.ownBlock = some g → B + 6 ≤ g := fun g q => (h.todo.blk g q).1
  have o2 := Only.setCell (w := w7) (B + 5) 7 (.slice (some ⟨g, 0, none⟩) (td.length + 1) cap)
  have hY := Blk.onl h.blk o1 (fun q => by have := hb _ q.symm; omega)
  refine ⟨⟨hY.set 7 _, ?_, ?_, ?_, ?_, ?_, ?_, h.nil, ?_, ?_, h.inn, h.out, h.dlen, ?_⟩, (o1.mono (fun i _ q => by have := hb i q.symm; omega)).trans (o2.mono (fun i _ q => by omega))⟩
  · exact (h.names.only strK o1 (fun _ _ h => h.elim) (fun g q r => h.names.ne h.todo (by decide) g q r.symm)).only strK o2 (fun _ _ h => h.elim) (fun g q r => by have := (h.names.blk g q).1; omega)
  · exact (h.pars.only intK o1 (fun _ _ h => h.elim) (fun g q r => h.apart g q r.symm)).only intK o2 (fun _ _ h => h.elim) (fun g q r => by have := (h.pars.blk g q).1; omega)
  · exact (h.wants.only (inlK N) o1 (fun g _ q _ r => by have := hb g r.symm; omega) (fun g q r => h.wants.ne h.todo (by decide) g q r.symm)).only (inlK N) o2 (fun g _ q _ r => by omega) (fun g q r => by have := (h.wants.blk g q).1; omega)
  · exact (h.done.only boolK o1 (fun _ _ h => h.elim) (fun g q r => h.done.ne h.todo (by decide) g q r.symm)).only boolK o2 (fun _ _ h => h.elim) (fun g q r => by have := (h.done.blk g q).1; omega)
  · exact ho.only intK o2 (fun _ _ h => h.elim) (fun g q r => by have := (ho.blk g q).1; omega)
  · intro g' q r
    have e : g = g' := by simpa [Value.ownBlock] using r
    rcases hat with q2 | q2
    · exact h.apart g' q (by rw [q2, e])
    · have := (h.pars.blk g' q).2; omega
  · exact (h.mw.only o1 (fun q => by have := hb _ q.symm; omega)).only o2 (by omega)
  · exact (h.mn.only o1 (fun q => by have := hb _ q.symm; omega)).only o2 (by omega)
  · intro t ht
    rcases List.mem_append.1 ht with ht | ht
    · exact h.tpos t ht
    · simp at ht; rw [ht]; exact hx
def MarkP (N D B : Nat) (ns : List Bs) (us : List Inl) (dn : List Bool) (m : Nat) (v1 v2 v3 vd : Value) (esN : List (Bs × Value)) (w : World) (e : Ending) (w' : World) : Prop := e = .returned (.tuple #[]) ∧ ∃ td' vt, SvD N D B ns us dn td' w' v1 v2 v3 vd vt esN ∧ td'.length ≤ m ∧ Only (fun i => B + 1 ≤ i) w w'
set_option maxRecDepth 100000 in
set_option maxHeartbeats 6400000 in
theorem mark_any (N D B : Nat) (hD : D ≤ B) (ns : List Bs) (us : List Inl) (dn : List Bool) (td : List Int) (w : World) (v1 v2 v3 vd vt : Value) (esN : List (Bs × Value)) (i : Nat) (h : SvD N D B ns us dn td w v1 v2 v3 vd vt esN) (hi : i < ns.length) (hn : ns.length ≤ 1000000) (ht : td.length ≤ 999999) (hb : B + 6 ≤ w.heap.size) :
    Calls Try.prog 58 #[.pointer (some ⟨B + 5, 0, none⟩), .int .i64 i] w (MarkP N D B ns us (dn.set i true) (td.length + 1) v1 v2 v3 vd esN w) := by
  have HJ := Lib.hid h
  have hdl := h.dlen
  obtain ⟨i0, h0, hz0, hz1, hz2⟩ := info_parts Try.infoInt
  obtain ⟨ad, cd, rfl, hcd, hmd⟩ := h.done.form
  obtain ⟨bi, hbi⟩ : ∃ b, dn[i]? = some b := ⟨_, List.getElem?_eq_getElem (by omega)⟩
  obtain ⟨gd, csd, rfl, hgd1, hgd2, -, -, hcl, hcc, hcr⟩ := h.done.at_ i bi hbi
  obtain ⟨ap, cp, rfl, hcp, hmp⟩ := h.pars.form
  have hpi : (List.replicate ns.length (-1 : Int))[i]? = some (-1) := by simp [hi]
  obtain ⟨gp, csp, rfl, hgp1, hgp2, -, -, hcl2, hcc2, hcr2⟩ := h.pars.at_ i (-1) hpi
  unfold BoolK at hcr
  unfold IntK at hcr2
  have cD : w.cell? ⟨gd, i, none⟩ = some (.bool bi) := by have := hcc 0 (.bool bi) (by rw [hcr]; rfl); rwa [Nat.mul_one, Nat.add_zero] at this
  have fD : w.frozen? ⟨gd, i, none⟩ = false := by have := (h.done.there i (by omega) 0 (by omega)).2; rwa [Nat.mul_one, Nat.add_zero] at this
  have y6 : w.cell? ⟨B + 5, 6, none⟩ = some (.slice (some ⟨gd, 0, none⟩) dn.length cd) := h.blk.cell 6 _ rfl
  have hlt : (i : Int) < dn.length := by omega
  have q1 : ((i : Int) == -1) = false := by rw [beq_eq_false_iff_ne]; omega
  have zY := h.blk.lt
  have hneY : gd ≠ B + 5 := by omega
  cases bi with
  | true =>
    have hset : dn.set i true = dn := List.ext_getElem? (fun j => by
      by_cases q : i = j
      · subst q; rw [List.getElem?_set_self (by omega), hbi]
      · rw [List.getElem?_set_ne q])
    have HF : MarkP N D B ns us (dn.set i true) (td.length + 1) v1 (.slice (some ⟨gp, 0, none⟩) (List.replicate ns.length (-1 : Int)).length cp) v3 (.slice (some ⟨gd, 0, none⟩) dn.length cd) esN w (.returned (.tuple #[])) w := ⟨rfl, td, _, by rw [hset]; exact HJ.out, by omega, Only.of_kept (Kept.refl w)⟩
    have HF := Lib.hid HF
    generalize hP : MarkP N D B ns us (dn.set i true) (td.length + 1) v1 (.slice (some ⟨gp, 0, none⟩) (List.replicate ns.length (-1 : Int)).length cp) v3 (.slice (some ⟨gd, 0, none⟩) dn.length cd) esN w = P at *
    clear hset hbi h hcc hcr hcc2 hcr2 hpi hP HJ
    go_enter Try.func58, Try.ntmps58
    go_wp2_with fail
    go_loopw [1] (fun k wr => k = .int .i64 i ∧ w = wr) (fun k _ => 1)
    case atStart => exact ⟨rfl, rfl⟩
    case round =>
      obtain ⟨rfl, rfl⟩ := hrel
      go_wp2_with fail
      (try simp only [Exit.inBlock, Exit.then]); (try refine bodyPost_ret (results_none rfl _ _ _) rfl ?_)
      exact HF.out
  | false =>
    obtain ⟨hJ1, hon1⟩ := h.mark hD i (by omega)
    have HJ1 := Lib.hid hJ1
    have HON1 := Lib.hid hon1
    obtain ⟨at_, ct, rfl, hct, hmt⟩ := h.todo.form
    have hneP : gp ≠ gd := fun e => h.pars.ne h.done (by decide) gp rfl (by rw [e]; rfl)
    have y7 : (w.setCell ⟨gd, i, none⟩ (.bool true)).cell? ⟨B + 5, 7, none⟩ = some (.slice at_ td.length ct) := hJ1.blk.cell 7 _ rfl
    have zY1 := hJ1.blk.lt
    have HROW := Lib.hid (Blk.new (w.setCell ⟨gd, i, none⟩ (.bool true)) 3 #[.int .i64 i])
    rw [size_setCell] at HROW
    have hk2 := kept_alloc (w.setCell ⟨gd, i, none⟩ (.bool true)) (.cells #[.int .i64 i] 3)
    have HJ2 := Lib.hid (hJ1.kept hk2)
    have hb2 : B + 6 ≤ ((w.setCell ⟨gd, i, none⟩ (.bool true)).alloc (.cells #[.int .i64 i] 3)).heap.size := Nat.le_trans (Nat.le_trans hb hon1.size) hk2.size
    have HK2 := Lib.hid hk2
    have hvb : ∀ g', (Value.slice at_ td.length ct).ownBlock = some g' → B + 6 ≤ g' := fun g' q => (hJ1.todo.blk g' q).1
    clear hbi h hcc hcr hcc2 hcr2 hpi hJ1 hon1 hk2
    go_enter Try.func58, Try.ntmps58
    go_wp2_with fail
    go_loopw [1] (fun k wr => (k = .int .i64 i ∧ w = wr) ∨ (k = .int .i64 (-1) ∧ Hid (∃ td' vt, SvD N D B ns us (dn.set i true) td' wr v1 (.slice (some ⟨gp, 0, none⟩) (List.replicate ns.length (-1 : Int)).length cp) v3 (.slice (some ⟨gd, 0, none⟩) dn.length cd) vt esN ∧ td'.length ≤ td.length + 1 ∧ Only (fun i => B + 1 ≤ i) w wr))) (fun k _ => (intOf k + 1).toNat)
    case atStart => exact .inl ⟨rfl, rfl⟩
    case round =>
      rcases hrel with ⟨rfl, rfl⟩ | ⟨rfl, HE⟩
      · go_wp2_with (refine wpList_append_out intK rfl (.tmp 26) (.tmp 28) 62 rfl i0 _ 8 Try.underlying62 h0 hz0 hz1 hz2 rfl (by omega) (by rfl) HJ2.out.todo _ [.int .i64 i] i (by rfl) (fun j u hu => HROW.out.cell j u (by rw [← Array.getElem?_toList]; exact hu)) rfl rfl (by unfold maxLen; omega) (by omega) hb2 _ rfl ?_; intro g7 c7' w7 hout7 hgrow7 hat7 hlt7; have hB7 : Blk w7 (B + 5) 93 _ := HJ2.out.blk.onl (Only.grown hgrow7) (fun q => by have := hvb _ q.symm; omega); have f7 := hB7.free 7; have y7' := hB7.cell 7 _ rfl; have z7 := hB7.lt; have HGR7 := Lib.hid hgrow7; have HOUT7 := Lib.hid hout7; have HAT7 := Lib.hid hat7; obtain ⟨hJ8, hon8⟩ := HJ2.out.push hD (Int.natCast_nonneg i) hgrow7 hout7 hat7; have y1 := hJ8.blk.cell 1 _ rfl; have hpi : (List.replicate ns.length (-1 : Int))[i]? = some (-1) := (by simp [hi]); obtain ⟨_, csp, hgpe, _, _, _, _, _, hcc2, hcr2⟩ := hJ8.pars.at_ i (-1) hpi; have cP : World.cell? (World.setCell w7 ⟨B + 5, 7, none⟩ (.slice (some ⟨g7, 0, none⟩) (td.length + 1) c7')) ⟨gp, i, none⟩ = some (.int .i64 (-1)) := (by cases hgpe; have := hcc2 0 (.int .i64 (-1)) (by rw [hcr2]; rfl); rwa [Nat.mul_one, Nat.add_zero] at this); have HJ8 := Lib.hid hJ8; have HON8 := Lib.hid hon8; clear hgrow7 hat7 hout7 hB7 hgpe hcc2 hcr2 hJ8 hon8)
        refine ⟨.inr ⟨rfl, ⟨td ++ [(i : Int)], _, HJ8.out, by simp, (HON1.out.mono (fun j _ q => by omega)).trans ((Only.of_kept HK2.out).trans HON8.out)⟩⟩, by simp [intOf]⟩
      · have HF : Hid (MarkP N D B ns us (dn.set i true) (td.length + 1) v1 (.slice (some ⟨gp, 0, none⟩) (List.replicate ns.length (-1 : Int)).length cp) v3 (.slice (some ⟨gd, 0, none⟩) dn.length cd) esN w (.returned (.tuple #[])) wr) := ⟨rfl, HE.out⟩
        generalize hP : MarkP N D B ns us (dn.set i true) (td.length + 1) v1 (.slice (some ⟨gp, 0, none⟩) (List.replicate ns.length (-1 : Int)).length cp) v3 (.slice (some ⟨gd, 0, none⟩) dn.length cd) esN w = P at *
        clear HE hP HJ HJ1 HJ2 HROW
        go_wp2_with fail
        (try simp only [Exit.inBlock, Exit.then]); (try refine bodyPost_ret (results_none rfl _ _ _) rfl ?_)
        exact HF.out
end Go.Proofs.Ythbnahagfojfbaa

/- survey.look: the definitions that the uses outside name. Conditions: lengths. -/
set_option linter.all false
namespace Go.Proofs.Ythbnahagfojfbaa
open Go.RowKit

theorem zero_int (w : World) : (zeroValue 3).run Try.prog w = .ok (.int .i64 0) w := by kernel_rfl
def LookIn (w : World) (e : Ending) (w' : World) : Prop := e = .returned (.tuple #[]) ∧ w' = w
set_option maxRecDepth 100000 in
set_option maxHeartbeats 3200000 in
/-- Nothing is wanted in a definition. -/
theorem look_in (N D B : Nat) (ns : List Bs) (us : List Inl) (dn : List Bool) (td : List Int) (w : World) (v1 v2 v3 vd vt : Value) (esN : List (Bs × Value)) (k : Int) (h : SvD N D B ns us dn td w v1 v2 v3 vd vt esN) (hk : 0 ≤ k) :
    Calls Try.prog 38 #[.pointer (some ⟨B + 5, 0, none⟩), .int .i64 k] w (LookIn w) := by
  have y2 : w.cell? ⟨B + 5, 2, none⟩ = some (.map (some (B + 1))) := h.blk.cell 2 _ rfl
  have lk := lookV (P := Try.prog) Try.underlying88 Try.underlying3 w (B + 1) (wantsE v3 us) k _ (zero_inls w) h.mw
  have hg : getV (wantsE v3 us) k = none := by
    cases us with
    | nil => rfl
    | cons u t => show getV [(-1, v3)] k = none; rw [getV_cons, if_neg (by omega)]; rfl
  rw [hg] at lk
  simp only [Option.getD_none] at lk
  have HF : Hid (LookIn w (.returned (.tuple #[])) w) := ⟨rfl, rfl⟩
  generalize hP : LookIn w = P at *
  clear h hP
  go_enter Try.func38, Try.ntmps38
  go_wp2_with fail
  go_loopw [15] (fun i wr => i = .int .i64 0 ∧ w = wr) (fun i _ => 1)
  case atStart => exact ⟨rfl, rfl⟩
  case round =>
    obtain ⟨rfl, rfl⟩ := hrel
    go_wp2_with fail
    (try simp only [Exit.inBlock, Exit.then]); (try refine bodyPost_ret (results_none rfl _ _ _) rfl ?_)
    exact HF.out
/-- What is marked: what was, and what the uses name. -/
def MarksOf (ns : List Bs) (dn0 dn : List Bool) (us : List Inl) : Prop := ∀ (i : Nat) (nm : Bs), ns[i]? = some nm → (dn[i]? = some true ↔ dn0[i]? = some true ∨ ∃ u ∈ us, useName u = nm)
def LookP (N D B : Nat) (ns : List Bs) (us : List Inl) (dn0 : List Bool) (m : Nat) (v1 v2 v3 vd : Value) (esN : List (Bs × Value)) (w : World) (e : Ending) (w' : World) : Prop := e = .returned (.tuple #[]) ∧ ∃ dn td vt, SvD N D B ns us dn td w' v1 v2 v3 vd vt esN ∧ MarksOf ns dn0 dn us ∧ td.length ≤ m ∧ Only (fun i => B + 1 ≤ i) w w'
theorem marks_step {ns : List Bs} (hnd : ns.Nodup) {dn0 dn : List Bool} {us : List Inl} (h : MarksOf ns dn0 dn us) (hl : dn.length = ns.length) (u : Inl) (i : Nat) (hi : ns[i]? = some (useName u)) : MarksOf ns dn0 (dn.set i true) (us ++ [u]) := by
  intro j nm hj
  have hjl := (List.getElem?_eq_some_iff.1 hj).1
  have hil := (List.getElem?_eq_some_iff.1 hi).1
  by_cases q : i = j
  · subst q
    rw [hi] at hj
    cases hj
    rw [List.getElem?_set_self (by omega)]
    exact ⟨fun _ => .inr ⟨u, by simp, rfl⟩, fun _ => rfl⟩
  · rw [List.getElem?_set_ne q, h j nm hj]
    constructor
    · rintro (a | ⟨y, hy, e⟩)
      · exact .inl a
      · exact .inr ⟨y, List.mem_append.2 (.inl hy), e⟩
    · rintro (a | ⟨y, hy, e⟩)
      · exact .inl a
      · rcases List.mem_append.1 hy with hy | hy
        · exact .inr ⟨y, hy, e⟩
        · simp at hy
          subst hy
          exfalso
          obtain ⟨h1, e1⟩ := List.getElem?_eq_some_iff.1 hi
          obtain ⟨h2, e2⟩ := List.getElem?_eq_some_iff.1 hj
          rcases Nat.lt_or_gt_of_ne q with z | z
          · exact List.pairwise_iff_getElem.1 hnd i j h1 h2 z (by rw [e1, e2, e])
          · exact List.pairwise_iff_getElem.1 hnd j i h2 h1 z (by rw [e1, e2, e])
theorem marks_skip {ns : List Bs} {dn0 dn : List Bool} {us : List Inl} (h : MarksOf ns dn0 dn us) (u : Inl) (hu : useName u ∉ ns) : MarksOf ns dn0 dn (us ++ [u]) := by
  intro j nm hj
  rw [h j nm hj]
  constructor
  · rintro (a | ⟨y, hy, e⟩)
    · exact .inl a
    · exact .inr ⟨y, List.mem_append.2 (.inl hy), e⟩
  · rintro (a | ⟨y, hy, e⟩)
    · exact .inl a
    · rcases List.mem_append.1 hy with hy | hy
      · exact .inr ⟨y, hy, e⟩
      · simp at hy
        subst hy
        exact absurd (by rw [e]; exact List.mem_of_getElem? hj) hu
set_option maxRecDepth 100000 in
set_option maxHeartbeats 12800000 in
theorem look_out (N D B : Nat) (hD : D ≤ B) (ns : List Bs) (us : List Inl) (dn : List Bool) (td : List Int) (w : World) (v1 v2 v3 vd vt : Value) (esN : List (Bs × Value)) (h : SvD N D B ns us dn td w v1 v2 v3 vd vt esN) (hnd : ns.Nodup) (hn : ns.length ≤ 1000000) (hu : us.length ≤ 100000) (ht : td.length ≤ 100000) (hx : ∀ x ∈ us, okU x ∧ x.kind = 11) (hb : B + 6 ≤ w.heap.size) :
    Calls Try.prog 38 #[.pointer (some ⟨B + 5, 0, none⟩), .int .i64 (-1)] w (LookP N D B ns us dn (td.length + us.length) v1 v2 v3 vd esN w) := by
  have HJ := Lib.hid h
  have HX := Lib.hid hx
  have HND := Lib.hid hnd
  obtain ⟨a3, c3, rfl, hc3, hm3⟩ := h.wants.form
  have y2 : w.cell? ⟨B + 5, 2, none⟩ = some (.map (some (B + 1))) := h.blk.cell 2 _ rfl
  have lk := lookV (P := Try.prog) Try.underlying88 Try.underlying3 w (B + 1) (wantsE (.slice a3 us.length c3) us) (-1) _ (zero_inls w) h.mw
  have hg : (getV (wantsE (.slice a3 us.length c3) us) (-1)).getD (.slice none 0 0) = .slice a3 us.length c3 := by
    cases us with
    | nil => rw [h.nil rfl]; rfl
    | cons u t => rfl
  rw [hg] at lk
  have HM0 : Hid (MarksOf ns dn dn (us.take 0)) := fun i nm hi => ⟨fun q => .inl q, fun q => q.elim id (fun ⟨y, hy, _⟩ => by simp at hy)⟩
  have HFIN : Hid (∀ w' dn' td' vt', SvD N D B ns us dn' td' w' v1 v2 (.slice a3 us.length c3) vd vt' esN → MarksOf ns dn dn' (us.take us.length) → td'.length ≤ td.length + us.length → Only (fun i => B + 1 ≤ i) w w' → LookP N D B ns us dn (td.length + us.length) v1 v2 (.slice a3 us.length c3) vd esN w (.returned (.tuple #[])) w') := fun w' dn' td' vt' h1 h2 h3 h4 => ⟨rfl, dn', td', vt', h1, by rw [List.take_length] at h2; exact h2, h3, h4⟩
  generalize hP : LookP N D B ns us dn (td.length + us.length) v1 v2 (.slice a3 us.length c3) vd esN w = P at *
  clear hP h hg hx hnd
  go_enter Try.func38, Try.ntmps38
  go_wp2_with fail
  go_loopw [15] (fun i wr => ∃ (j : Nat) (dn' : List Bool) (td' : List Int) (vt' : Value), j ≤ us.length ∧ i = .int .i64 j ∧ Hid (SvD N D B ns us dn' td' wr v1 v2 (.slice a3 us.length c3) vd vt' esN) ∧ Hid (MarksOf ns dn dn' (us.take j)) ∧ td'.length ≤ td.length + j ∧ Hid (Only (fun i => B + 1 ≤ i) w wr)) (fun i _ => us.length - (intOf i).toNat)
  case atStart => exact ⟨0, dn, td, vt, Nat.zero_le _, rfl, HJ.out, HM0.out, by omega, Only.of_kept (Kept.refl w)⟩
  case round =>
    obtain ⟨j, dn', td', vt', hj, rfl, HJR, HMR, htl, HKR⟩ := hrel
    have hbr : B + 6 ≤ wr.heap.size := Nat.le_trans hb HKR.out.size
    by_cases hlt : j < us.length
    · obtain ⟨x, hx⟩ : ∃ x, us[j]? = some x := ⟨_, List.getElem?_eq_getElem hlt⟩
      obtain ⟨⟨hox, hpl⟩, hk11⟩ := HX.out x (List.mem_of_getElem? hx)
      have HT := Lib.hid (take_snoc hx)
      obtain ⟨f0, f10⟩ := hox.fit
      obtain ⟨f1, f2, f3, f4, f5, f6, f7, f8, f9⟩ := f0
      obtain ⟨g, cs, rfl, hg1, hg2, -, -, hcl, hcc, hcr⟩ := HJR.out.wants.at_ j x hx
      obtain ⟨vC, vP, vA, vT, vK, rfl, ⟨hC, iC⟩, ⟨hPP, iP⟩, ⟨hA, iA⟩, hTT, hK⟩ := hcr
      have HUN : Hid (useName x = (getP x.prs kName).getD (plainL x.kids)) := rfl
      have HSTEP := Lib.hid (fun i h => marks_step HND.out HMR.out HJR.out.dlen x i h)
      have HSKIP := Lib.hid (marks_skip HMR.out x)
      rw [← HT.out] at HSTEP HSKIP
      obtain ⟨kind, text, dest, title, id, cls, prs, args, cits, kids⟩ := x
      simp only [Inl.kind, Inl.text, Inl.dest, Inl.title, Inl.id, Inl.cls, Inl.prs, Inl.args, Inl.cits, Inl.kids] at hC iC hPP iP hA iA hTT hK hpl f1 f2 f3 f4 f5 f6 f7 f8 f9 f10 hk11 HUN
      subst hk11
      obtain ⟨nm, HNM⟩ : ∃ nm, Hid ((getP prs kName).getD (plainL kids) = nm) := ⟨_, rfl⟩
      obtain ⟨aC, cC, rfl, lC⟩ := hC.shape
      obtain ⟨aP, cP, rfl, lP⟩ := hPP.shape
      obtain ⟨aA, cA, rfl, lA⟩ := hA.shape
      obtain ⟨aT, cT, rfl, lT⟩ := hTT.form
      obtain ⟨aK, cK, rfl, lK⟩ := hK.form
      have d0 : wr.cell? ⟨g, j * 10, none⟩ = some (.int .i64 11) := hcc 0 _ rfl
      have d1 : wr.cell? ⟨g, j * 10 + 1, none⟩ = some (.string (bs text)) := hcc 1 _ rfl
      have d2 : wr.cell? ⟨g, j * 10 + 2, none⟩ = some (.string (bs dest)) := hcc 2 _ rfl
      have d3 : wr.cell? ⟨g, j * 10 + 3, none⟩ = some (.string (bs title)) := hcc 3 _ rfl
      have d4 : wr.cell? ⟨g, j * 10 + 4, none⟩ = some (.string (bs id)) := hcc 4 _ rfl
      have d5 : wr.cell? ⟨g, j * 10 + 5, none⟩ = some (.slice aC cls.length cC) := hcc 5 _ rfl
      have d6 : wr.cell? ⟨g, j * 10 + 6, none⟩ = some (.slice aP prs.length cP) := hcc 6 _ rfl
      have d7 : wr.cell? ⟨g, j * 10 + 7, none⟩ = some (.slice aA args.length cA) := hcc 7 _ rfl
      have d8 : wr.cell? ⟨g, j * 10 + 8, none⟩ = some (.slice aT cits.length cT) := hcc 8 _ rfl
      have d9 : wr.cell? ⟨g, j * 10 + 9, none⟩ = some (.slice aK kids.length cK) := hcc 9 _ rfl
      have HB0 := Lib.hid (Blk.new wr 41 #[.int .i64 11, .string (bs text), .string (bs dest), .string (bs title), .string (bs id), .slice aC cls.length cC, .slice aP prs.length cP, .slice aA args.length cA, .slice aT cits.length cT, .slice aK kids.length cK])
      have HKI := Lib.hid (kept_alloc wr (.cells #[.int .i64 11, .string (bs text), .string (bs dest), .string (bs title), .string (bs id), .slice aC cls.length cC, .slice aP prs.length cP, .slice aA args.length cA, .slice aT cits.length cT, .slice aK kids.length cK] 41))
      have HUSE := Lib.hid (usename_any N 11 text dest title id (.slice aC cls.length cC) (.slice aP prs.length cP) (.slice aA args.length cA) (.slice aT cits.length cT) (.slice aK kids.length cK) prs kids ((wr.alloc (.cells #[.int .i64 11, .string (bs text), .string (bs dest), .string (bs title), .string (bs id), .slice aC cls.length cC, .slice aP prs.length cP, .slice aA args.length cA, .slice aT cits.length cT, .slice aK kids.length cK] 41)).drew) rfl ((hPP.kept HKI.out).kept (kept_drewN _ 1)) rfl rfl ((hK.kept HKI.out).kept (kept_drewN _ 1)) (by omega) (by omega) f10 (by omega))
      rw [HNM.out] at HUSE HUN
      obtain ⟨I, HI⟩ : ∃ I, Hid (wr.heap.size = I) := ⟨_, rfl⟩
      have HJ1 := Lib.hid (HJR.out.kept HKI.out)
      clear hC iC hPP iP hA iA hTT hK hcc hcl hx hox f10 HT
      go_wp2_with fail
      generalize wr.alloc _ = w1 at *
      rw [HI.out] at HB0 ⊢
      have y3 : w1.cell? ⟨B + 5, 3, none⟩ = some (.map (some (B + 2))) := HJ1.out.blk.cell 3 _ rfl
      have y3' : w1.drew.cell? ⟨B + 5, 3, none⟩ = some (.map (some (B + 2))) := HJ1.out.blk.cell 3 _ rfl
      have m0 : w1.cell? ⟨I, 0, none⟩ = some (.int .i64 11) := (HB0.out).cell 0 _ rfl
      have m1 : w1.cell? ⟨I, 1, none⟩ = some (.string (bs text)) := (HB0.out).cell 1 _ rfl
      have m2 : w1.cell? ⟨I, 2, none⟩ = some (.string (bs dest)) := (HB0.out).cell 2 _ rfl
      have m3 : w1.cell? ⟨I, 3, none⟩ = some (.string (bs title)) := (HB0.out).cell 3 _ rfl
      have m4 : w1.cell? ⟨I, 4, none⟩ = some (.string (bs id)) := (HB0.out).cell 4 _ rfl
      have m5 : w1.cell? ⟨I, 5, none⟩ = some (.slice aC cls.length cC) := (HB0.out).cell 5 _ rfl
      have m6 : w1.cell? ⟨I, 6, none⟩ = some (.slice aP prs.length cP) := (HB0.out).cell 6 _ rfl
      have m7 : w1.cell? ⟨I, 7, none⟩ = some (.slice aA args.length cA) := (HB0.out).cell 7 _ rfl
      have m8 : w1.cell? ⟨I, 8, none⟩ = some (.slice aT cits.length cT) := (HB0.out).cell 8 _ rfl
      have m9 : w1.cell? ⟨I, 9, none⟩ = some (.slice aK kids.length cK) := (HB0.out).cell 9 _ rfl
      have n0 : w1.drew.cell? ⟨I, 0, none⟩ = some (.int .i64 11) := (HB0.out).cell 0 _ rfl
      have n1 : w1.drew.cell? ⟨I, 1, none⟩ = some (.string (bs text)) := (HB0.out).cell 1 _ rfl
      have n2 : w1.drew.cell? ⟨I, 2, none⟩ = some (.string (bs dest)) := (HB0.out).cell 2 _ rfl
      have n3 : w1.drew.cell? ⟨I, 3, none⟩ = some (.string (bs title)) := (HB0.out).cell 3 _ rfl
      have n4 : w1.drew.cell? ⟨I, 4, none⟩ = some (.string (bs id)) := (HB0.out).cell 4 _ rfl
      have n5 : w1.drew.cell? ⟨I, 5, none⟩ = some (.slice aC cls.length cC) := (HB0.out).cell 5 _ rfl
      have n6 : w1.drew.cell? ⟨I, 6, none⟩ = some (.slice aP prs.length cP) := (HB0.out).cell 6 _ rfl
      have n7 : w1.drew.cell? ⟨I, 7, none⟩ = some (.slice aA args.length cA) := (HB0.out).cell 7 _ rfl
      have n8 : w1.drew.cell? ⟨I, 8, none⟩ = some (.slice aT cits.length cT) := (HB0.out).cell 8 _ rfl
      have n9 : w1.drew.cell? ⟨I, 9, none⟩ = some (.slice aK kids.length cK) := (HB0.out).cell 9 _ rfl
      clear d0 d1 d2 d3 d4 d5 d6 d7 d8 d9
      apply cut_region (R := fun w' => Kept w1 w')
      · intro HC
        go_region_with (first | (go_at_call 32; refine HUSE.out.mono ?_; rintro e w9 ⟨rfl, hk9⟩; have HK9 := Lib.hid ((kept_drewN w1 1).trans hk9); have y9 : w9.cell? ⟨B + 5, 3, none⟩ = some (.map (some (B + 2))) := (HJ1.out.blk.kept HK9.out).cell 3 _ rfl; have lk9 := lookT_ok (P := Try.prog) Try.underlying89 Try.underlying9 w9 (B + 2) esN nm _ (zero_int w9) (HJ1.out.mn.kept HK9.out); clear hk9))
        all_goals exact HC _ HK9.out
      · intro w3 hk3
        have HK3 := Lib.hid hk3
        have HJ3 := Lib.hid (HJ1.out.kept hk3)
        have HON3 : Hid (Only (fun i => B + 1 ≤ i) w w3) := HKR.out.trans (Only.of_kept (HKI.out.trans hk3))
        clear HUSE hk3 HJ1 y3 y3' HB0 HKI HK3 m0 n0 m1 n1 m2 n2 m3 n3 m4 n4 m5 n5 m6 n6 m7 n7 m8 n8 m9 n9
        by_cases hmem : nm ∈ ns
        · obtain ⟨i, hi, hie⟩ := List.getElem_of_mem hmem
          have hi' : ns[i]? = some nm := by rw [List.getElem?_eq_getElem hi, hie]
          have hgt := HJ3.out.inn i nm hi'
          have HMK := Lib.hid (mark_any N D B hD ns us dn' td' w3 _ _ _ _ _ esN i HJ3.out hi hn (by omega) (Nat.le_trans hb HON3.out.size))
          unfold MarkP at HMK
          rw [hgt]
          have HST := Lib.hid (HSTEP.out i (by rw [HUN.out]; exact hi'))
          clear hi' hie hmem hgt HSTEP HSKIP HUN
          go_wp2_with fail
          refine HMK.out.mono ?_
          rintro e w5 ⟨rfl, td5, vt5, hJ5, htd5, hon5⟩
          have HJ5 := Lib.hid hJ5
          have HON5 := Lib.hid (HON3.out.trans hon5)
          clear hJ5 hon5 HMK HON3 HJ3 HJR HMR HKR
          go_wp2_with fail
          go_roundw
          case rel => exact ⟨j + 1, _, td5, vt5, by omega, by go_num, HJ5.out, HST.out, by omega, HON5.out⟩
          case measure => simp [intOf]; omega
        · have hgt := HJ3.out.out nm hmem
          rw [hgt]
          have HST := Lib.hid (HSKIP.out (by rw [HUN.out]; exact hmem))
          clear hmem hgt HSTEP HSKIP HUN HJR HMR HKR
          go_wp2_with fail
          go_roundw
          case rel => exact ⟨j + 1, dn', td', vt', by omega, by go_num, HJ3.out, HST.out, by omega, HON3.out⟩
          case measure => simp [intOf]; omega
    · obtain rfl : j = us.length := by omega
      have HF := Lib.hid (HFIN.out wr dn' td' vt' HJR.out HMR.out htl HKR.out)
      clear HFIN HJR HMR HKR HJ HX HM0
      go_wp2_with fail
      (try simp only [Exit.inBlock, Exit.then]); (try refine bodyPost_ret (results_none rfl _ _ _) rfl ?_)
      exact HF.out
end Go.Proofs.Ythbnahagfojfbaa

/- gloss.needed: the names of the definitions that are used. Conditions: okSL. -/
set_option linter.all false
namespace Go.Proofs.Ythbnahagfojfbaa
open Go.RowKit

theorem OutG.bools {base : Nat} {w : World} {v : Value} {n : Nat} (h : w.ownsRow base 4 1 v n (List.replicate n (.bool false))) : OutG BoolK 1 (fun _ => False) base 4 w v (List.replicate n false) := by
  refine ⟨List.replicate n [.bool false], by simp, fun cs h => by rw [(List.mem_replicate.1 h).2]; rfl, ?_, fun j cs x hc hx => ?_⟩
  · have e : (List.replicate n ([.bool false] : List Value)).flatten = List.replicate n (.bool false) := by
      clear h
      induction n with
      | zero => rfl
      | succ n ih => rw [List.replicate_succ, List.flatten_cons, ih, List.replicate_succ]; rfl
    rw [e, List.length_replicate]; exact h
  · have h1 := List.mem_replicate.1 (List.mem_of_getElem? hc)
    have h2 := List.mem_replicate.1 (List.mem_of_getElem? hx)
    unfold BoolK
    rw [h1.2, h2.2]
theorem OutG.pop {α : Type} {R : (Nat → Prop) → World → List Value → α → Prop} {k : Nat} {A : Nat → Prop} {base : Nat} {e : TypeId} {w : World} {a : Option Addr} {n c : Nat} {xs : List α} {x : α} (h : OutG R k A base e w (.slice a (n + 1) c) (xs ++ [x])) : OutG R k A base e w (.slice a n c) xs := by
  obtain ⟨css, h1, h2, ho, h4⟩ := h
  have hl : css.length = xs.length + 1 := by rw [h1]; simp
  obtain ⟨c0, y, rfl⟩ : ∃ c0 y, css = c0 ++ [y] := by
    have hne : css ≠ [] := fun e => by rw [e] at hl; simp at hl
    rcases List.eq_nil_or_concat css with q | ⟨c0, y, q⟩
    · exact absurd q hne
    · exact ⟨c0, y, by rw [q, List.concat_eq_append]⟩
  have hl0 : c0.length = xs.length := by simpa using hl
  have e1 : (fun g' => A g' ∧ (Value.slice a n c).ownBlock ≠ some g') = (fun g' => A g' ∧ (Value.slice a (n + 1) c).ownBlock ≠ some g') := by
    cases a <;> rfl
  refine ⟨c0, hl0, fun cs hc => h2 cs (List.mem_append.2 (.inl hc)), ?_, fun j cs z hc hz => ?_⟩
  · obtain ⟨hlen, hd⟩ := ho
    have hy := h2 y (by simp)
    rw [List.flatten_append, List.length_append] at hlen
    simp at hlen
    have hfl := flat_len c0 (fun cs hc => h2 cs (List.mem_append.2 (.inl hc)))
    refine ⟨by rw [hfl, hl0], ?_⟩
    rcases hd with ⟨hv, _⟩ | ⟨g, cap, cur, hv, hb, hg, hn, hm, hs, hx⟩
    · cases hv
    · obtain ⟨e2, e3, e4⟩ := Value.slice.inj hv
      have hnx : n = xs.length := by simp at e3; omega
      refine .inr ⟨g, cap, cur, by rw [e2, e4, hnx], hb, hg, by simp at hn; omega, hm, hs, ?_⟩
      have h5 : cur.toList.take (xs.length * k) = ((c0 ++ [y]).flatten).take (xs.length * k) := by
        rw [← hx, List.take_take, Nat.min_eq_left (Nat.mul_le_mul_right _ (by simp))]
      rw [h5, List.flatten_append, List.take_append_of_le_length (by rw [hfl, hl0]; exact Nat.le_refl _), List.take_of_length_le (by rw [hfl, hl0]; exact Nat.le_refl _)]
  · rw [e1]
    exact h4 j cs z (by rw [List.getElem?_append_left (List.getElem?_eq_some_iff.1 hc).1]; exact hc) (by rw [List.getElem?_append_left (List.getElem?_eq_some_iff.1 hz).1]; exact hz)
/-- The last of what is still to be looked at is taken away. -/
theorem SvD.pop {N D B : Nat} {ns : List Bs} {us : List Inl} {dn : List Bool} {td : List Int} {x : Int} {w : World} {v1 v2 v3 vd : Value} {a : Option Addr} {n c : Nat} {esN : List (Bs × Value)} (h : SvD N D B ns us dn (td ++ [x]) w v1 v2 v3 vd (.slice a (n + 1) c) esN) (hD : D ≤ B) :
    SvD N D B ns us dn td (w.setCell ⟨B + 5, 7, none⟩ (.slice a n c)) v1 v2 v3 vd (.slice a n c) esN := by
  have k := Only.setCell (w := w) (B + 5) 7 (.slice a n c)
  exact ⟨h.blk.set 7 _, h.names.only strK k (fun _ _ h => h.elim) (fun g q r => by have := (h.names.blk g q).1; omega), h.pars.only intK k (fun _ _ h => h.elim) (fun g q r => by have := (h.pars.blk g q).1; omega), h.wants.only (inlK N) k (fun g _ q _ r => by omega) (fun g q r => by have := (h.wants.blk g q).1; omega), h.done.only boolK k (fun _ _ h => h.elim) (fun g q r => by have := (h.done.blk g q).1; omega), h.todo.pop.only intK k (fun _ _ h => h.elim) (fun g q r => by have := (h.todo.pop.blk g q).1; omega), fun g q => by have := h.apart g q; cases a <;> exact this, h.nil, h.mw.only k (by omega), h.mn.only k (by omega), h.inn, h.out, h.dlen, fun t ht => h.tpos t (List.mem_append.2 (.inl ht))⟩
/-- The survey when the marks are made. -/
theorem SvJ.start {N D B : Nat} {ns : List Bs} {us : List Inl} {ids : List Bs} {w w2 : World} {v1 v2 v3 vd : Value} {esN esI : List (Bs × Value)} (h : SvJ N D B ns (List.replicate ns.length (-1)) ns us ids w v1 v2 v3 esN esI) (hD : D ≤ B) (hk : Kept w w2) (ho : OutG BoolK 1 (fun _ => False) (B + 6) 4 w2 vd (List.replicate ns.length false)) :
    SvD N D B ns us (List.replicate ns.length false) [] (w2.setCell ⟨B + 5, 6, none⟩ vd) v1 v2 v3 vd (.slice none 0 0) esN := by
  have k := Only.setCell (w := w2) (B + 5) 6 vd
  have h := h.kept hk
  exact ⟨h.blk.set 6 _, h.names.only strK k (fun _ _ h => h.elim) (fun g q r => by have := (h.names.blk g q).1; omega), h.pars.only intK k (fun _ _ h => h.elim) (fun g q r => by have := (h.pars.blk g q).1; omega), h.wants.only (inlK N) k (fun g _ q _ r => by omega) (fun g q r => by have := (h.wants.blk g q).1; omega), ho.only boolK k (fun _ _ h => h.elim) (fun g q r => by have := (ho.blk g q).1; omega), OutG.nil _ _ _ _ _ _, fun g _ q => (by cases q), h.nil, h.mw.only k (by omega), h.mn.only k (by omega), h.inn, h.out, by simp, fun t ht => (by cases ht)⟩
/-- How much is still to be looked at. -/
def todoLen (b : Nat) (w : World) : Nat := match w.cell? ⟨b, 7, none⟩ with | some (.slice _ n _) => n | _ => 0
/-- The names whose marks are set. -/
def selN (ns : List Bs) (dn : List Bool) : List Bs := ((ns.zip dn).filter (·.2)).map (·.1)
def NeedP (ns : List Bs) (us : List Inl) (w : World) (e : Ending) (w' : World) : Prop := ∃ M ks, e = .returned (.map (some M)) ∧ MapK w' M ks ∧ (∀ nm, nm ∈ ks ↔ (nm ∈ ns ∧ ∃ u ∈ us, useName u = nm)) ∧ w.heap.size ≤ M ∧ Kept w w'
theorem sv_made (N B : Nat) (w : World) (hB : w.heap.size = B) (x : Obj) : SvI N B B [] [] [] ((((((w.alloc x).alloc (.map #[] 0)).alloc (.map #[] 0)).alloc (.map #[] 0)).alloc (.map #[] 0)).alloc (.cells #[.slice none 0 0, .slice none 0 0, .map (some (B + 1)), .map (some (B + 2)), .map (some (B + 3)), .map (some (B + 4)), .slice none 0 0, .slice none 0 0] 93)) := by
  have e0 : (w.alloc x).heap.size = B + 1 := by simp [hB]
  have e1 : ((w.alloc x).alloc (.map #[] 0)).heap.size = B + 2 := by simp [hB]
  have e2 : (((w.alloc x).alloc (.map #[] 0)).alloc (.map #[] 0)).heap.size = B + 3 := by simp [hB]
  have e3 : ((((w.alloc x).alloc (.map #[] 0)).alloc (.map #[] 0)).alloc (.map #[] 0)).heap.size = B + 4 := by simp [hB]
  have e4 : (((((w.alloc x).alloc (.map #[] 0)).alloc (.map #[] 0)).alloc (.map #[] 0)).alloc (.map #[] 0)).heap.size = B + 5 := by simp [hB]
  have m1 := MapV.made (w.alloc x)
  have m2 := MapT.made ((w.alloc x).alloc (.map #[] 0))
  have m3 := MapT.made (((w.alloc x).alloc (.map #[] 0)).alloc (.map #[] 0))
  have m4 := MapT.made ((((w.alloc x).alloc (.map #[] 0)).alloc (.map #[] 0)).alloc (.map #[] 0))
  have k1 := kept_alloc ((w.alloc x).alloc (.map #[] 0)) (.map #[] 0)
  have k2 := kept_alloc (((w.alloc x).alloc (.map #[] 0)).alloc (.map #[] 0)) (.map #[] 0)
  have k3 := kept_alloc ((((w.alloc x).alloc (.map #[] 0)).alloc (.map #[] 0)).alloc (.map #[] 0)) (.map #[] 0)
  have k4 := kept_alloc (((((w.alloc x).alloc (.map #[] 0)).alloc (.map #[] 0)).alloc (.map #[] 0)).alloc (.map #[] 0)) (.cells #[.slice none 0 0, .slice none 0 0, .map (some (B + 1)), .map (some (B + 2)), .map (some (B + 3)), .map (some (B + 4)), .slice none 0 0, .slice none 0 0] 93)
  have b := Blk.new (((((w.alloc x).alloc (.map #[] 0)).alloc (.map #[] 0)).alloc (.map #[] 0)).alloc (.map #[] 0)) 93 #[.slice none 0 0, .slice none 0 0, .map (some (B + 1)), .map (some (B + 2)), .map (some (B + 3)), .map (some (B + 4)), .slice none 0 0, .slice none 0 0]
  rw [e0] at m1
  rw [e1] at m2
  rw [e2] at m3
  rw [e3] at m4
  rw [e4] at b
  exact ⟨.slice none 0 0, .slice none 0 0, .slice none 0 0, [], [], b, OutG.nil _ _ _ _ _ _, OutG.nil _ _ _ _ _ _, OutG.nil _ _ _ _ _ _, fun _ => rfl, (((m1.kept k1).kept k2).kept k3).kept k4, ((m2.kept k2).kept k3).kept k4, (m3.kept k3).kept k4, m4.kept k4, fun i nm h => (by cases h), fun _ _ => rfl, fun _ _ => rfl⟩
set_option maxRecDepth 100000 in
set_option maxHeartbeats 12800000 in
theorem needed_any (N M : Nat) (aM : Option Addr) (nM cM : Nat) (v : Value) (xs : List Blo) (w : World) (st : St) (hst : svL (-1) false xs ⟨[], [], []⟩ = st) (hv : Bls (fun g => g < w.heap.size) N M w v xs) (hl : xs.length ≤ 1000000) (hok : okBL xs) (hos : okSL (-1) false xs ⟨[], [], []⟩) (hnd : st.ns.Nodup) (hnl : st.ns.length ≤ 1000000) (hul : st.us.length ≤ 100000) (hx : ∀ x ∈ st.us, okU x ∧ x.kind = 11) :
    Calls Try.prog 19 #[docV (.slice aM nM cM) v] w (NeedP st.ns st.us w) := by
  obtain ⟨a, c, rfl, hc⟩ := hv.form
  obtain ⟨B, HB⟩ : ∃ B, Hid (w.heap.size = B) := ⟨_, rfl⟩
  have hsz := HB.out
  have HS0 := Lib.hid (sv_made N B w hsz (.cells #[.slice aM nM cM, .slice a xs.length c] 45))
  have HK0 : Hid (Kept w ((((((w.alloc (.cells #[.slice aM nM cM, .slice a xs.length c] 45)).alloc (.map #[] 0)).alloc (.map #[] 0)).alloc (.map #[] 0)).alloc (.map #[] 0)).alloc (.cells #[.slice none 0 0, .slice none 0 0, .map (some (B + 1)), .map (some (B + 2)), .map (some (B + 3)), .map (some (B + 4)), .slice none 0 0, .slice none 0 0] 93))) :=
    (((((kept_alloc w _).trans (kept_alloc _ _)).trans (kept_alloc _ _)).trans (kept_alloc _ _)).trans (kept_alloc _ _)).trans (kept_alloc _ _)
  rw [hsz] at hv
  have HBLK := Lib.hid (fun w' h1 h2 h3 => sblk_any N B B (Nat.le_refl _) M xs (.slice a xs.length c) (-1) false ⟨[], [], []⟩ w' h1 hl hok hos h2 h3)
  unfold SvP at HBLK
  rw [hst] at HBLK
  have hb0 : B + 6 ≤ ((((((w.alloc (.cells #[.slice aM nM cM, .slice a xs.length c] 45)).alloc (.map #[] 0)).alloc (.map #[] 0)).alloc (.map #[] 0)).alloc (.map #[] 0)).alloc (.cells #[.slice none 0 0, .slice none 0 0, .map (some (B + 1)), .map (some (B + 2)), .map (some (B + 3)), .map (some (B + 4)), .slice none 0 0, .slice none 0 0] 93)).heap.size := by simp [hsz]
  have HCALL := Lib.hid (HBLK.out _ (hv.kept HK0.out) hb0 HS0.out)
  have mk1 := fun w => run_makeMap (P := Try.prog) 88 w
  have mk2 := fun w => run_makeMap (P := Try.prog) 89 w
  have mk3 := fun w => run_makeMap (P := Try.prog) 90 w
  have mk4 := fun w => run_makeMap (P := Try.prog) 66 w
  obtain ⟨i0, hi, hz0, hz1, hz2⟩ := info_parts Try.infoBool
  generalize hP : NeedP st.ns st.us w = P at *
  have HP := Lib.hid hP
  clear hv hok hos hP HBLK hst
  go_enter Try.func19, Try.ntmps19
  go_wp2_with fail
  simp only [Nat.add_assoc, Nat.reduceAdd]
  refine HCALL.out.mono ?_
  rintro e w1 ⟨rfl, hs1, hf1⟩
  obtain ⟨v1, v2, v3, esN, esI, hJ⟩ := hs1
  have hz1' : B + 6 ≤ w1.heap.size := Nat.le_trans hb0 hf1.size
  have HK1 : Hid (Kept w w1) := HK0.out.trans' (hf1.only.below HK0.out.size (fun i h => by omega))
  obtain ⟨ns, HNS⟩ : ∃ ns, Hid (st.ns = ns) := ⟨_, rfl⟩
  obtain ⟨us, HUS⟩ : ∃ us, Hid (st.us = us) := ⟨_, rfl⟩
  rw [HNS.out, HUS.out] at hJ
  rw [HNS.out] at hnd hnl
  rw [HUS.out] at hul hx
  obtain ⟨a1, c1, rfl, hc1, hm1⟩ := hJ.names.form
  obtain ⟨w2, mkS, own2, gr2⟩ := run_makeSlice_full (P := Try.prog) (w := w1) (B + 6) 91 4 i0 _ 1 Try.underlying91 hi hz0 hz1 .i64 .i64 ns.length (by omega) (by rw [hz2]; omega) (by unfold maxLen; omega) hz1'
  have hcl : Value.cells (.bool false) = #[.bool false] := rfl
  rw [hcl, Nat.mul_one, toList_madeCells_one] at own2
  have hk2 : Kept w1 w2 := (Only.grown gr2).below (Nat.le_refl _) (fun i h => by cases h)
  have hD := hJ.start (Nat.le_refl B) hk2 (OutG.bools own2)
  have hY2 := hJ.blk.kept hk2
  have y0 : w1.cell? ⟨B + 5, 0, none⟩ = some (.slice a1 ns.length c1) := hJ.blk.cell 0 _ rfl
  have y6 : w2.cell? ⟨B + 5, 6, none⟩ = some (.slice none 0 0) := hY2.cell 6 _ rfl
  have f6 := hY2.free 6
  have zY := hY2.lt
  have HD := Lib.hid hD
  have HF2 : Hid (Only (fun i => B + 1 ≤ i) w1 (w2.setCell ⟨B + 5, 6, none⟩ (.slice (some ⟨w1.heap.size, 0, none⟩) ns.length ns.length))) := (Only.of_kept hk2).trans ((Only.setCell (B + 5) 6 _).mono (fun i _ q => by omega))
  have HLK := Lib.hid (look_out N B B (Nat.le_refl B) ns us _ _ _ _ _ _ _ _ esN hD hnd hnl hul (by simp) hx (by rw [size_setCell]; exact Nat.le_trans hz1' hk2.size))
  unfold LookP at HLK
  clear hD hY2 own2 gr2 hk2 hJ hf1 HCALL HK0 HS0 hb0
  go_wp2_with fail
  clear y0 y6 f6 zY mkS
  generalize w2.setCell _ _ = w3 at *
  refine HLK.out.mono ?_
  rintro e w4 ⟨rfl, dn, td, vt, hd4, hm4, htl, ho4⟩
  have HK4 : Hid (Kept w w4) := HK1.out.trans' ((HF2.out.trans ho4).below HK1.out.size (fun i h => by omega))
  have HD4 := Lib.hid hd4
  have HM4 := Lib.hid hm4
  have hz4 : B + 6 ≤ w4.heap.size := Nat.le_trans hz1' (HF2.out.trans ho4).size
  obtain ⟨vdx, HVD⟩ : ∃ v, Hid (Value.slice (some ⟨w1.heap.size, 0, none⟩) ns.length ns.length = v) := ⟨_, rfl⟩
  rw [HVD.out] at HD4
  clear hd4 hm4 ho4 HLK HD HF2 HVD
  go_wp2_with fail
  go_loopw [4] (fun _ wr => ∃ (td : List Int) (vt : Value), Hid (SvD N B B ns us dn td wr (.slice a1 ns.length c1) v2 v3 vdx vt esN) ∧ Hid (Kept w wr) ∧ B + 6 ≤ wr.heap.size ∧ td.length ≤ 1000000) (fun _ wr => todoLen (B + 5) wr)
  case atStart => exact ⟨td, vt, HD4.out, HK4.out, hz4, by simp at htl; omega⟩
  case round =>
    obtain ⟨td, vt, HDR, HKR, hzr, htl2⟩ := hrel
    obtain ⟨at_, ct, rfl, hct, hmt⟩ := HDR.out.todo.form
    have y7 : wr.cell? ⟨B + 5, 7, none⟩ = some (.slice at_ td.length ct) := HDR.out.blk.cell 7 _ rfl
    rcases List.eq_nil_or_concat td with rfl | ⟨td0, x, htd⟩
    · have HKM := Lib.hid (kept_alloc wr (.map #[] 0))
      have HM0 := Lib.hid (MapK_made wr)
      have HDM := Lib.hid (HDR.out.kept HKM.out)
      obtain ⟨M2, HM2⟩ : ∃ m, Hid (wr.heap.size = m) := ⟨_, rfl⟩
      have y0 : (wr.alloc (.map #[] 0)).cell? ⟨B + 5, 0, none⟩ = some (.slice a1 ns.length c1) := HDM.out.blk.cell 0 _ rfl
      have zY := HDM.out.blk.lt
      have hb1 : ∀ g, (Value.slice a1 ns.length c1).ownBlock = some g → g ≠ M2 := fun g q => by have := (HDR.out.names.blk g q).2; have := HM2.out; omega
      have hbd : ∀ g, vdx.ownBlock = some g → g ≠ M2 := fun g q => by have := (HDR.out.done.blk g q).2; have := HM2.out; omega
      have hb5 : B + 5 ≠ M2 := by have := HDR.out.blk.lt; have := HM2.out; omega
      have hMz : w.heap.size ≤ M2 := by have := HKR.out.size; have := HM2.out; omega
      have hdl := HDR.out.dlen
      obtain ⟨ad, cd, rfl, hcd, hmd⟩ := HDR.out.done.form
      have HK7 := Lib.hid (HKR.out.trans HKM.out)
      clear HDR
      go_wp2_with fail
      rw [HM2.out] at HM0 ⊢
      generalize wr.alloc _ = w7 at *
      clear y0 zY HKM HKR
      go_loopw [70] (fun i wz => ∃ (j : Nat), j ≤ ns.length ∧ i = .int .i64 j ∧ Hid (MapK wz M2 (((ns.zip dn).take j).filter (·.2) |>.map (·.1))) ∧ Hid (Only (fun i => i = M2) w7 wz)) (fun i _ => ns.length - (intOf i).toNat)
      case atStart => exact ⟨0, Nat.zero_le _, rfl, HM0.out, Only.of_kept (Kept.refl w7)⟩
      case round =>
        obtain ⟨j, hj, rfl, HMR, HOR⟩ := hrel
        by_cases hlt : j < ns.length
        · obtain ⟨nm, hnm⟩ : ∃ x, ns[j]? = some x := ⟨_, List.getElem?_eq_getElem hlt⟩
          obtain ⟨b, hdb⟩ : ∃ x, dn[j]? = some x := ⟨_, List.getElem?_eq_getElem (by omega)⟩
          obtain ⟨g1, cs1, rfl, -, hg1, -, -, -, hcc1, hcr1⟩ := HDM.out.names.at_ j nm hnm
          obtain ⟨gd, csd, rfl, -, hgd, -, -, -, hccd, hcrd⟩ := HDM.out.done.at_ j b hdb
          unfold StrK at hcr1
          unfold BoolK at hcrd
          have n1 : w7.cell? ⟨g1, j, none⟩ = some (.string (bs nm)) := by have := hcc1 0 (.string (bs nm)) (by rw [hcr1]; rfl); rwa [Nat.mul_one, Nat.add_zero] at this
          have nd : w7.cell? ⟨gd, j, none⟩ = some (.bool b) := by have := hccd 0 (.bool b) (by rw [hcrd]; rfl); rwa [Nat.mul_one, Nat.add_zero] at this
          have y6 : w7.cell? ⟨B + 5, 6, none⟩ = some (.slice (some ⟨gd, 0, none⟩) dn.length cd) := HDM.out.blk.cell 6 _ rfl
          have hzip : (ns.zip dn)[j]? = some (nm, b) := by rw [List.getElem?_zip_eq_some]; exact ⟨hnm, hdb⟩
          have HT := Lib.hid (take_snoc hzip)
          have n1r : wr.cell? ⟨g1, j, none⟩ = some (.string (bs nm)) := (HOR.out.cell g1 j hg1 (hb1 g1 rfl)).trans n1
          have ndr : wr.cell? ⟨gd, j, none⟩ = some (.bool b) := (HOR.out.cell gd j hgd (hbd gd rfl)).trans nd
          have y6r : wr.cell? ⟨B + 5, 6, none⟩ = some (.slice (some ⟨gd, 0, none⟩) dn.length cd) := (HOR.out.cell (B + 5) 6 HDM.out.blk.lt hb5).trans y6
          have hlt2 : j < dn.length := by omega
          cases b with
          | false =>
            have HM2' : Hid (MapK wr M2 (((ns.zip dn).take (j + 1)).filter (·.2) |>.map (·.1))) := by
              have e : (((ns.zip dn).take (j + 1)).filter (·.2) |>.map (·.1)) = (((ns.zip dn).take j).filter (·.2) |>.map (·.1)) := by rw [HT.out]; simp
              rw [e]; exact HMR.out
            clear hcc1 hcr1 hccd hcrd n1 nd y6 hzip HT hnm hdb
            go_wp2_with fail
            go_roundw
            case rel => exact ⟨j + 1, by omega, by go_num, HM2'.out, HOR.out⟩
            case measure => simp [intOf]; omega
          | true =>
            have hnk : nm ∉ (((ns.zip dn).take j).filter (·.2) |>.map (·.1)) := fun q => by
              obtain ⟨p, hp, e⟩ := List.mem_map.1 q
              have hp2 := (List.mem_filter.1 hp).1
              obtain ⟨i, hi, hpe⟩ := List.getElem_of_mem hp2
              rw [List.length_take] at hi
              have h1 : (ns.zip dn)[i]? = some p := by
                rw [← hpe, List.getElem_take]
                exact List.getElem?_eq_getElem (by omega)
              have h2 : ns[i]? = some p.1 := (List.getElem?_zip_eq_some.1 (by rw [h1])).1
              obtain ⟨h3, e3⟩ := List.getElem?_eq_some_iff.1 h2
              obtain ⟨h4, e4⟩ := List.getElem?_eq_some_iff.1 hnm
              exact List.pairwise_iff_getElem.1 hnd i j h3 h4 (by omega) (by rw [e3, e4, e])
            obtain ⟨ks, HKS⟩ : ∃ ks, Hid ((((ns.zip dn).take j).filter (·.2) |>.map (·.1)) = ks) := ⟨_, rfl⟩
            have hTK : (((ns.zip dn).take (j + 1)).filter (·.2) |>.map (·.1)) = ks ++ [nm] := by rw [HT.out, ← HKS.out]; simp
            have HTK := Lib.hid hTK
            rw [HKS.out] at hnk HMR
            have up := insK wr M2 ks nm HMR.out hnk
            have HM2' : Hid (MapK (putK wr M2 (ks ++ [nm])) M2 (((ns.zip dn).take (j + 1)).filter (·.2) |>.map (·.1))) := by rw [HTK.out]; exact putK_map wr M2 _ HMR.out.lt
            have HO2 := Lib.hid (HOR.out.trans (putK_only wr M2 (ks ++ [nm])))
            clear hcc1 hcr1 hccd hcrd n1 nd y6 hzip HT hnm hdb hTK HTK HKS hnk
            go_wp2_with fail
            go_roundw
            case rel => exact ⟨j + 1, by omega, by go_num, HM2'.out, HO2.out⟩
            case measure => simp [intOf]; omega
        · obtain rfl : j = ns.length := by omega
          have hF : NeedP st.ns st.us w (.returned (.map (some M2))) wr := by
            refine ⟨M2, _, rfl, HMR.out, fun nm => ?_, hMz, HK7.out.trans' (HOR.out.below HK7.out.size (fun i e => by omega))⟩
            rw [HNS.out, HUS.out]
            have htk : (ns.zip dn).take ns.length = ns.zip dn := List.take_of_length_le (by rw [List.length_zip]; omega)
            rw [htk]
            constructor
            · intro q
              obtain ⟨p, hp, e⟩ := List.mem_map.1 q
              obtain ⟨hp1, hp2⟩ := List.mem_filter.1 hp
              obtain ⟨i, hi, hpe⟩ := List.getElem_of_mem hp1
              have h1 : (ns.zip dn)[i]? = some p := by rw [← hpe]; exact List.getElem?_eq_getElem hi
              obtain ⟨h2, h3⟩ := List.getElem?_zip_eq_some.1 h1
              rw [e] at h2
              rw [hp2] at h3
              refine ⟨List.mem_of_getElem? h2, ?_⟩
              rcases (HM4.out i nm h2).1 h3 with q2 | q2
              · exfalso
                rw [List.getElem?_replicate] at q2
                split at q2 <;> cases q2
              · exact q2
            · rintro ⟨q, hu⟩
              obtain ⟨i, hi, hie⟩ := List.getElem_of_mem q
              have h2 : ns[i]? = some nm := by rw [← hie]; exact List.getElem?_eq_getElem hi
              have h3 := (HM4.out i nm h2).2 (.inr hu)
              refine List.mem_map.2 ⟨(nm, true), List.mem_filter.2 ⟨List.mem_of_getElem? (List.getElem?_zip_eq_some.2 ⟨h2, h3⟩), rfl⟩, rfl⟩
          rw [HP.out] at hF
          have HF := Lib.hid hF
          clear hF HMR HOR HDM HM0 HM4
          go_wp2_with fail
          (try go_ret)
          exact HF.out
    · rw [List.concat_eq_append] at htd
      subst htd
      have hx0 := HDR.out.tpos x (by simp)
      have hlen : (td0 ++ [x]).length = td0.length + 1 := by simp
      have hxi : (td0 ++ [x])[td0.length]? = some x := by simp
      obtain ⟨gt, cs, rfl, -, -, -, -, -, hcc, hcr⟩ := HDR.out.todo.at_ td0.length x hxi
      unfold IntK at hcr
      have cT : wr.cell? ⟨gt, td0.length, none⟩ = some (.int .i64 x) := by have := hcc 0 (.int .i64 x) (by rw [hcr]; rfl); rwa [Nat.mul_one, Nat.add_zero] at this
      have hHD : SvD N B B ns us dn (td0 ++ [x]) wr (.slice a1 ns.length c1) v2 v3 vdx (.slice (some ⟨gt, 0, none⟩) (td0.length + 1) ct) esN := by rw [← hlen]; exact HDR.out
      have HHD := Lib.hid hHD
      rw [hlen] at y7 hct
      have fY := HDR.out.blk.free 7
      have zY := HDR.out.blk.lt
      have hme : todoLen (B + 5) wr = td0.length + 1 := by unfold todoLen; rw [y7]
      clear hcc hcr hHD HDR
      rw [hlen] at htl2
      go_wp2_with fail
      go_quiet (fail)
      go_wp2_with fail
      have HKQ := fun n => kept_drewN wr n
      have y7q := fun n => (HHD.out.blk.kept (HKQ n)).cell 7 _ rfl
      have fYq := fun n => (HHD.out.blk.kept (HKQ n)).free 7
      have zYq := fun n => (HHD.out.blk.kept (HKQ n)).lt
      apply cut_region (R := fun w' => SvD N B B ns us dn td0 w' (.slice a1 ns.length c1) v2 v3 vdx (.slice (some ⟨gt, 0, none⟩) td0.length ct) esN ∧ Kept w w' ∧ B + 6 ≤ w'.heap.size)
      · intro HC
        go_region
        all_goals
          exact HC _ ⟨(HHD.out.kept (HKQ _)).pop (Nat.le_refl B), kept_set (HKR.out.trans (HKQ _)) (B + 5) 7 _ (by omega), by rw [size_setCell]; exact hzr⟩
      · intro w5 hR
        obtain ⟨hd5, hk5, hz5⟩ := hR
        have HLK := Lib.hid (look_in N B B ns us dn td0 w5 _ _ _ _ _ esN x hd5 hx0)
        unfold LookIn at HLK
        have hme5 : todoLen (B + 5) w5 = td0.length := by
          have h7 : w5.cell? ⟨B + 5, 7, none⟩ = some (.slice (some ⟨gt, 0, none⟩) td0.length ct) := hd5.blk.cell 7 _ rfl
          unfold todoLen; rw [h7]
        have HD5 := Lib.hid hd5
        have HK5 := Lib.hid hk5
        clear hd5 hk5 HHD HKR y7 y7q fYq zYq fY zY cT
        go_wp2_with fail
        refine HLK.out.mono ?_
        rintro e w6 ⟨rfl, rfl⟩
        clear HLK
        go_wp2_with fail
        go_roundw
        case rel => exact ⟨td0, _, HD5.out, HK5.out, hz5, by omega⟩
        case measure => rw [hme, hme5]; omega
end Go.Proofs.Ythbnahagfojfbaa
