/- bib.Check. Conditions: lengths. -/
import Derived.Test.YtgkgcheegaegnaaDoorT24
import Derived.Test.YtgkgcheegaegnaaDoorT19
import Derived.Deep.Upon

set_option linter.all false
namespace Go.Proofs.YtgkgcheegaegnaaDoor
open Go.RowKit

def chkE : List Bs → List SrcT → Int
  | _, [] => 0
  | ks, s :: ss => if nameB s.type = false ∨ nameB s.key = false then 6 else if ks.contains s.key = true then 7 else if srcE s ≠ 0 then srcE s else chkE (ks ++ [s.key]) ss
def checkE (l : List SrcT) : Int := if 256 < l.length then 3 else chkE [] l
theorem chkE_at (l : List SrcT) (ks : List Bs) (k : Nat) (s : SrcT) (h : l[k]? = some s) : chkE ks (l.drop k) = if nameB s.type = false ∨ nameB s.key = false then 6 else if ks.contains s.key = true then 7 else if srcE s ≠ 0 then srcE s else chkE (ks ++ [s.key]) (l.drop (k + 1)) := by
  obtain ⟨hk, rfl⟩ := List.getElem?_eq_some_iff.1 h
  rw [List.drop_eq_getElem_cons hk]; rfl
theorem Srcs.kept {w w' : World} {v : Value} {ss : List SrcT} (h : Srcs w v ss) (k : Kept w w') : Srcs w' v ss := by
  obtain ⟨a, c, hv, hc, h3⟩ := h
  refine ⟨a, c, hv, hc, fun q => ?_⟩
  obtain ⟨g, o, ha, hg, hcell⟩ := h3 q
  refine ⟨g, o, ha, Nat.lt_of_lt_of_le hg k.size, fun j x hx => ?_⟩
  obtain ⟨vA, vE, vF, c0, c1, c2, c3, c4, h1, h2, h3⟩ := hcell j x hx
  exact ⟨vA, vE, vF, (k.cell (p := ⟨g, _, none⟩) hg).trans c0, (k.cell (p := ⟨g, _, none⟩) hg).trans c1, (k.cell (p := ⟨g, _, none⟩) hg).trans c2, (k.cell (p := ⟨g, _, none⟩) hg).trans c3, (k.cell (p := ⟨g, _, none⟩) hg).trans c4, h1.kept k, h2.kept k, h3.kept k⟩
theorem MapK.kept {w w' : World} {m : Nat} {ks : List Bs} (h : MapK w m ks) (k : Kept w w') : MapK w' m ks := h.only (Only.of_kept (S := fun _ => False) k) (fun q => q)
/-- Lengths that every walk over a source bears. -/
def SmallS (s : SrcT) : Prop := SmallP s.author ∧ SmallP s.editor ∧ SmallF s.fields ∧ s.author.length ≤ 1000000 ∧ s.editor.length ≤ 1000000 ∧ s.fields.length ≤ 1000000 ∧ s.key.length ≤ 1000000 ∧ s.type.length ≤ 1000000
set_option maxRecDepth 100000 in
set_option maxHeartbeats 6400000 in
theorem check_any (v : Value) (ss : List SrcT) (w : World) (hg : Gnd w) (hv : Srcs w v ss) (hs : ∀ s ∈ ss, SmallS s) (hl : ss.length ≤ 1000000) :
    Calls Tryd.prog 16 #[v] w fun e w' => e = .returned (.int .i64 (checkE ss)) ∧ Kept w w' := by
  have HV := Lib.hid hv
  have HR : Hid (checkE ss = if 256 < ss.length then 3 else chkE [] ss) := rfl
  obtain ⟨R, HRR⟩ : ∃ R, Hid (checkE ss = R) := ⟨_, rfl⟩
  rw [HRR.out] at HR ⊢
  clear HRR
  obtain ⟨a, c, rfl, hc, hh⟩ := hv
  clear hh
  have mk := fun w => run_makeMap (P := Tryd.prog) 52 w
  by_cases hlim : 256 < ss.length
  · rw [if_pos hlim] at HR
    go_enter Tryd.func16, Tryd.ntmps16
    go_wp2_with fail
    go_ret
    exact ⟨by rw [HR.out]; rfl, Kept.refl _⟩
  · rw [if_neg hlim] at HR
    have hlim' : ss.length ≤ 256 := by omega
    go_enter Tryd.func16, Tryd.ntmps16
    go_wp2_with fail
    go_loopw [13] (fun i wr => ∃ (k : Nat) (ks : List Bs), k ≤ ss.length ∧ i = .int .i64 k ∧ Hid (R = chkE ks (ss.drop k)) ∧ Hid (MapK wr w.heap.size ks) ∧ Hid (Kept w wr)) (fun i _ => ss.length - (intOf i).toNat)
    case atStart => exact ⟨0, [], Nat.zero_le _, rfl, HR, heap_alloc_new w _, kept_alloc _ _⟩
    case round =>
      obtain ⟨k, ks, hk, rfl, HP, HM, HKR⟩ := hrel
      by_cases hlt : k < ss.length
      · obtain ⟨s, hx⟩ : ∃ x, ss[k]? = some x := ⟨_, List.getElem?_eq_getElem hlt⟩
        have HSM := Lib.hid (hs s (List.mem_of_getElem? hx))
        have HAT := Lib.hid (chkE_at ss ks k s hx)
        rw [HAT.out] at HP
        obtain ⟨a', c', hv', hc', h3⟩ := HV.out
        obtain ⟨rfl, hdead, rfl⟩ := Value.slice.inj hv'
        clear hdead hc'
        obtain ⟨g, o, rfl, hg', hcc⟩ := h3 (by omega)
        obtain ⟨vA, vE, vF, t0, t1, t2, t3, t4, pA, pE, pF⟩ := hcc k s hx
        have d0 := (HKR.out.cell (p := ⟨g, _, none⟩) hg').trans t0
        have d1 := (HKR.out.cell (p := ⟨g, _, none⟩) hg').trans t1
        have d2 := (HKR.out.cell (p := ⟨g, _, none⟩) hg').trans t2
        have d3 := (HKR.out.cell (p := ⟨g, _, none⟩) hg').trans t3
        have d4 := (HKR.out.cell (p := ⟨g, _, none⟩) hg').trans t4
        clear t0 t1 t2 t3 t4
        have hg2 : g < wr.heap.size := Nat.lt_of_lt_of_le hg' HKR.out.size
        have HPS := Lib.hid (And.intro pA (And.intro pE pF))
        obtain ⟨aA, cA, rfl, zA, zA'⟩ := pA
        obtain ⟨aE, cE, rfl, zE, zE'⟩ := pE
        obtain ⟨aF, cF, rfl, zF, zF'⟩ := pF
        clear zA zA' zE zE' zF zF'
        have HBK := Lib.hid (Blk.new wr 28 #[.string (bs s.key), .string (bs s.type), .slice aA s.author.length cA, .slice aE s.editor.length cE, .slice aF s.fields.length cF])
        have HNT := Lib.hid (fun w => isName_any s.type w HSM.out.2.2.2.2.2.2.2)
        have HNK := Lib.hid (fun w => isName_any s.key w HSM.out.2.2.2.2.2.2.1)
        have HCS := Lib.hid (fun w hg pA pE pF => cksrc_any s (.slice aA s.author.length cA) (.slice aE s.editor.length cE) (.slice aF s.fields.length cF) w hg pA pE pF HSM.out.1 HSM.out.2.1 HSM.out.2.2.1 HSM.out.2.2.2.1 HSM.out.2.2.2.2.1 HSM.out.2.2.2.2.2.1)
        clear hcc h3 hv' hx HAT
        go_wp2_with fail
        refine (HNT.out _).mono ?_
        rintro e w3 ⟨rfl, hk3⟩
        have e0 : w3.cell? ⟨wr.heap.size, 0, none⟩ = some (.string (bs s.key)) := (HBK.out.kept hk3).cell 0 _ rfl
        have HBK3 := Lib.hid (HBK.out.kept hk3)
        have HK3 := Lib.hid ((kept_alloc wr _).trans hk3)
        have z3 := HBK3.out.lt
        clear hk3 d0 d1 d2 d3 d4 hg' hg2
        cases hnt : nameB s.type
        · rw [if_pos (.inl hnt)] at HP
          go_wp2_with fail
          go_ret
          exact ⟨by rw [HP.out]; rfl, HKR.out.trans HK3.out⟩
        go_wp2_with fail
        refine (HNK.out _).mono ?_
        rintro e w4 ⟨rfl, hk4⟩
        have f0 : w4.cell? ⟨wr.heap.size, 0, none⟩ = some (.string (bs s.key)) := (HBK3.out.kept hk4).cell 0 _ rfl
        have HBK4 := Lib.hid (HBK3.out.kept hk4)
        have HK4 := Lib.hid (HK3.out.trans hk4)
        have HM4 := Lib.hid (HM.out.kept HK4.out)
        clear hk4 e0
        cases hnk : nameB s.key
        · rw [if_pos (.inr hnk)] at HP
          go_wp2_with fail
          go_ret
          exact ⟨by rw [HP.out]; rfl, HKR.out.trans HK4.out⟩
        rw [if_neg (by simp [hnt, hnk])] at HP
        have lk := lookK w4 w.heap.size ks s.key HM4.out
        cases hct : ks.contains s.key
        case true =>
          rw [if_pos hct] at HP
          rw [hct] at lk
          go_wp2_with fail
          go_ret
          exact ⟨by rw [HP.out]; rfl, HKR.out.trans HK4.out⟩
        rw [if_neg (by rw [hct]; simp)] at HP
        rw [hct] at lk
        have ins := insK w4 w.heap.size ks s.key HM4.out (by simpa using hct)
        have hne : wr.heap.size ≠ w.heap.size := by have := HM.out.lt; omega
        have HO5 := Lib.hid (putK_only w4 w.heap.size (ks ++ [s.key]))
        have HM5 := Lib.hid (putK_map w4 w.heap.size (ks ++ [s.key]) HM4.out.lt)
        have HB5 : Hid (Blk (putK w4 w.heap.size (ks ++ [s.key])) wr.heap.size 28 #[.string (bs s.key), .string (bs s.type), .slice aA s.author.length cA, .slice aE s.editor.length cE, .slice aF s.fields.length cF]) := (HO5.out.block _ HBK4.out.lt hne).trans HBK4.out
        have HK5 : Hid (Kept w (putK w4 w.heap.size (ks ++ [s.key]))) := (HKR.out.trans HK4.out).trans' (HO5.out.below (HKR.out.trans HK4.out).size (fun i h => by omega))
        generalize putK w4 w.heap.size (ks ++ [s.key]) = w5 at *
        have g0 := HB5.out.cell 0 _ rfl
        have g1 := HB5.out.cell 1 _ rfl
        have g2 := HB5.out.cell 2 _ rfl
        have g3 := HB5.out.cell 3 _ rfl
        have g4 := HB5.out.cell 4 _ rfl
        go_wp2_with fail
        refine (HCS.out _ (hg.kept HK5.out) (HPS.out.1.kept HK5.out) (HPS.out.2.1.kept HK5.out) (HPS.out.2.2.kept HK5.out)).mono ?_
        rintro e w6 ⟨rfl, hk6⟩
        have HK6 := Lib.hid (HK5.out.trans hk6)
        have HM6 := Lib.hid (HM5.out.kept hk6)
        clear hk6 g0 g1 g2 g3 g4
        generalize srcE s = E at *
        by_cases hE : E = 0
        · subst hE
          rw [if_neg (by simp)] at HP
          go_wp2_with fail
          go_roundw
          case rel => exact ⟨k + 1, ks ++ [s.key], by omega, by go_num, HP, HM6, HK6⟩
          case measure => simp [intOf]; omega
        · rw [if_pos hE] at HP
          go_wp2_with fail
          go_ret
          exact ⟨by rw [HP.out]; rfl, HK6.out⟩
      · obtain rfl : k = ss.length := by omega
        rw [List.drop_length] at HP
        have HZ : Hid (R = 0) := HP.out
        go_wp2_with fail
        go_ret
        exact ⟨by rw [HZ.out]; rfl, HKR.out⟩
end Go.Proofs.YtgkgcheegaegnaaDoor

/- Persons appended in a region that draws its order. Conditions: lengths. -/
set_option linter.all false
namespace Go.Proofs.YtgkgcheegaegnaaDoor
open Go.RowKit

theorem persC_append (ps qs : List P4) : persC (ps ++ qs) = persC ps ++ persC qs := by simp [persC]
theorem grown_refl (w : World) (row : Option Nat) : w.grownBy w row := World.grownBy.refl _ _
set_option maxRecDepth 100000 in
theorem step_append_pers (w : World) {ops : Array Oper} {o : Oper} {a : Act} {K : Act → World → Prop} {Q : Exit → Act → World → Prop} {E : Prop} (hgd : o.guard = none) (s x : Operand)
    (ho : o.op = .call { callee := .builtin .append, args := #[s, x], argTypes := #[25, 25] })
    (base : Nat) (v : Value) (ps : List P4) (hs : a.eval s = v) (hown : w.ownsRow base 46 4 v ps.length (persC ps)) (u : Value) (qs : List P4) (hx : a.eval x = u) (hu : Perss w u qs)
    (hb : ps.length + qs.length ≤ 1000) (hbase : base ≤ w.heap.size)
    (h : ∀ v' w', w'.ownsRow base 46 4 v' (ps ++ qs).length (persC (ps ++ qs)) → w.grownBy w' v.ownBlock → K (a.put o.dst v') w') :
    if Region.wanted o (yielded ops a.tmps) = true then Oper.wp Tryd.prog o a w K Q else E := by
  obtain ⟨i0, hi, hz0, hz1, hz2⟩ := info_parts Tryd.infoPers
  have hw : Region.wanted o (yielded ops a.tmps) = true := by simp [Region.wanted, hgd]
  rw [if_pos hw]
  by_cases hq : 0 < qs.length
  · have hu' := hu
    obtain ⟨a', c', rfl, hc, h3⟩ := hu
    obtain ⟨g, o2, rfl, _⟩ := h3 hq
    refine wp_append_lies w s x 25 ho base 46 i0 _ 4 64 Tryd.underlying25 hi hz0 hz1 hz2 rfl (by decide) v ps.length (persC ps) hs hown ⟨g, o2, none⟩ qs.length c' (persC qs) hx (persC_len qs) hu'.news (persC_one qs) hq (by unfold maxLen; omega) (by omega) hbase w.heap.size rfl ?_
    intro g' cap w' h1 h2 _ _
    refine h _ _ ?_ h2
    rw [List.length_append, persC_append]; exact h1
  · obtain rfl : qs = [] := List.length_eq_zero_iff.1 (by omega)
    obtain ⟨a', c', rfl, hc, _⟩ := hu
    have hown' := hown
    obtain ⟨a2, c2, rfl, hle, _, _⟩ := own_cap hown
    have hsrc : Src Tryd.prog i0.size 25 (.slice a' 0 c') 0 [] w := by
      refine ⟨.inl ⟨_, Tryd.underlying25⟩, fun w' => ?_, ?_, ?_, by simp, by simp⟩
      · simp [Builtin.lenOf]
      · cases a' <;> simp [Builtin.firstCells, loadCells, loadCellsFrom]
      · cases a' <;> simp [Builtin.firstCells, loadCells, loadCellsFrom]
    have hr := run_append_nothing (P := Tryd.prog) w 25 25 o.type 46 i0 Tryd.underlying25 hi a2 ps.length c2 hle (.slice a' 0 c') hsrc
    unfold Oper.wp execOp
    simp only [ho, resolve, invoke, builtin, Sem.run_bind, Sem.run_pure, Result.andThen_ok, List.map_toArray, List.map_cons, List.map_nil, hs, hx]
    simp only [List.length_nil]
    rw [hr]
    refine h _ _ ?_ (grown_refl _ _)
    rw [List.append_nil]; exact hown'
end Go.Proofs.YtgkgcheegaegnaaDoor
