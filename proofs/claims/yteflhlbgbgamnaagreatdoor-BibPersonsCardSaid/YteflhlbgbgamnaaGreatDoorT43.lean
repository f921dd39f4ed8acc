/- bib.Text. Conditions: lengths. -/
import Derived.Test.YteflhlbgbgamnaaGreatDoorT37
import Derived.Test.YteflhlbgbgamnaaGreatDoorT42

set_option linter.all false
namespace Go.Proofs.YteflhlbgbgamnaaGreatDoor
open Go.RowKit

/-- The lines written so far. -/
structure OutB (w0 : World) (v : Value) (xs : List Bs) (wr : World) : Prop where
  own : wr.ownsRow w0.heap.size 9 1 v xs.length (strCells xs)
  kept : Kept w0 wr
/-- The lines written so far, beside the block of the source in hand. -/
structure OutI (w0 : World) (sb : Nat) (cs : Array Value) (v : Value) (xs : List Bs) (wr : World) : Prop where
  own : wr.ownsRow w0.heap.size 9 1 v xs.length (strCells xs)
  blk : Blk wr sb 40 cs
  ne : v.ownBlock ≠ some sb
  kept : Kept w0 wr
theorem OutB.hold {w0 : World} {v : Value} {xs : List Bs} {wr : World} (h : OutB w0 v xs wr) (cs : Array Value) : OutI w0 wr.heap.size cs v xs (wr.alloc (.cells cs 40)) :=
  ⟨own_kept h.own (kept_alloc _ _), Blk.new wr _ cs, fun q => own_ne h.own wr.heap.size (Nat.le_refl _) q.symm, h.kept.trans (kept_alloc _ _)⟩
theorem OutI.drop {w0 : World} {sb : Nat} {cs : Array Value} {v : Value} {xs : List Bs} {wr : World} (h : OutI w0 sb cs v xs wr) : OutB w0 v xs wr := ⟨h.own, h.kept⟩
theorem OutI.next {w0 : World} {sb : Nat} {cs : Array Value} {v : Value} {xs : List Bs} {wr w' : World} (h : OutI w0 sb cs v xs wr) (k : Kept wr w') : OutI w0 sb cs v xs w' :=
  ⟨own_kept h.own k, h.blk.kept k, h.ne, h.kept.trans k⟩
theorem OutI.push {w0 : World} {sb : Nat} {cs : Array Value} {v : Value} {xs : List Bs} {wr w' : World} {y : Bs} {g cap H : Nat} (h : OutI w0 sb cs v xs wr)
    (ho : w'.ownsRow w0.heap.size 9 1 (.slice (some ⟨g, 0, none⟩) (xs.length + 1) cap) (xs.length + 1) (strCells xs ++ [.string (bs y)])) (hg : wr.grownBy w' v.ownBlock) (hat : v.ownBlock = some g ∨ g = H) (hH : wr.heap.size = H) :
    OutI w0 sb cs (.slice (some ⟨g, 0, none⟩) (xs.length + 1) cap) (xs ++ [y]) w' := by
  refine ⟨?_, ?_, ?_, ?_⟩
  · rw [← strCells_snoc] at ho
    simpa using ho
  · exact (hg.block sb h.blk.lt (fun q => h.ne q.symm)).trans h.blk
  · intro q
    simp [Value.ownBlock] at q
    subst q
    rcases hat with e | e
    · exact h.ne e
    · have := h.blk.lt; omega
  · exact h.kept.trans' (grown_below h.own hg h.kept.size)
theorem textR_len (f g p s : Bs) : (textR f g p s).length ≤ f.length + g.length + p.length + s.length + 9 := by
  unfold textR textS
  split
  · simp only [List.length_append]
    split <;> split <;> (try split) <;> simp <;> omega
  · simp
theorem pers_next (ps : List P4) (h : Bs) (k : Nat) (p : P4) (hx : ps[k]? = some p) : (ps.take (k + 1)).map (persLine h) = (ps.take k).map (persLine h) ++ [persLine h p] := by
  obtain ⟨hk, rfl⟩ := List.getElem?_eq_some_iff.1 hx
  rw [List.take_succ_eq_append_getElem hk, List.map_append]; rfl
theorem pers_len (ps : List P4) (h : Bs) (k : Nat) : ((ps.take k).map (persLine h)).length ≤ ps.length := by simp; omega
theorem fld_next (ps : List Pr) (k : Nat) (p : Pr) (hx : ps[k]? = some p) : (ps.take (k + 1)).map fldLine = (ps.take k).map fldLine ++ [fldLine p] := by
  obtain ⟨hk, rfl⟩ := List.getElem?_eq_some_iff.1 hx
  rw [List.take_succ_eq_append_getElem hk, List.map_append]; rfl
theorem fld_len (ps : List Pr) (k : Nat) : ((ps.take k).map fldLine).length ≤ ps.length := by simp; omega
set_option maxRecDepth 100000 in
set_option maxHeartbeats 12800000 in
theorem btext_any (v : Value) (ss : List SrcT) (w : World) (hg : Gnd w) (hv : Srcs w v ss) (hs : ∀ s ∈ ss, SmallS s) (hl : ss.length ≤ 1100000) (hj : (joinLn (outL ss)).length ≤ 1000000000000) :
    Calls Tryz.prog 36 #[v] w fun e w' => e = .returned (.tuple #[.string (bs (textL ss)), .int .i64 (checkE ss)]) ∧ Kept w w' := by
  obtain ⟨i0', hi', hz0, hz1, hz2⟩ := info_parts Tryz.infoStr
  have HV := Lib.hid hv
  have HCK := Lib.hid (check_any v ss w hg hv hs hl)
  have HTX : Hid (textL ss = if checkE ss = 0 then joinLn (outL ss) else []) := rfl
  have HCS := Lib.hid (chk_src ss)
  generalize checkE ss = E at *
  generalize textL ss = X at *
  obtain ⟨a, c, rfl, hc, hh⟩ := hv
  clear hh
  by_cases hE : E = 0
  case neg =>
    rw [if_neg hE] at HTX
    go_enter Tryz.func36, Tryz.ntmps36
    go_wp2_with fail
    refine (HCK.out).mono ?_
    rintro e w1 ⟨rfl, hk1⟩
    have HK1 := Lib.hid hk1
    clear hk1
    go_wp2_with fail
    go_ret2
    exact ⟨by rw [HTX.out]; rfl, HK1.out⟩
  subst hE
  rw [if_pos rfl] at HTX
  obtain ⟨hl256, hsrc⟩ := HCS.out rfl
  have HSRC := Lib.hid hsrc
  have HLEN := Lib.hid (outL_len ss hsrc)
  have HNEXT := Lib.hid (outL_snoc ss)
  clear hsrc HCS
  go_enter Tryz.func36, Tryz.ntmps36
  go_wp2_with fail
  refine (HCK.out).mono ?_
  rintro e w1 ⟨rfl, hk1⟩
  have HK1 := Lib.hid hk1
  have HG1 := Lib.hid (hg.kept hk1)
  have HV1 := Lib.hid (HV.out.kept hk1)
  clear hk1 HV HCK
  go_wp2_with fail
  go_loopw [5, 25] (fun v i wr => ∃ k : Nat, k ≤ ss.length ∧ i = .int .i64 k ∧ Hid (OutB w1 v (outL (ss.take k)) wr)) (fun _ i _ => ss.length - (intOf i).toNat)
  case atStart => exact ⟨0, Nat.zero_le _, rfl, ⟨by simpa [outL, strCells] using World.ownsRow_nil w1 w1.heap.size 9 1, Kept.refl _⟩⟩
  case round =>
    obtain ⟨k, hk, rfl, HB⟩ := hrel
    by_cases hlt : k < ss.length
    case neg =>
      obtain rfl : k = ss.length := by omega
      rw [List.take_of_length_le (Nat.le_refl _)] at HB
      have HLN := Lib.hid (HLEN.out ss.length (Nat.le_refl _))
      rw [List.take_of_length_le (Nat.le_refl _)] at HLN
      have HJ := Lib.hid (ljoin_any _ (outL ss) wr (Strs.own HB.out.own) (by have := HLN.out; omega) hj)
      rw [← HTX.out] at HJ
      clear HLEN HNEXT HSRC
      go_wp2_with fail
      refine (HJ.out).mono ?_
      rintro e w2 ⟨rfl, hk2⟩
      have HK2 := Lib.hid ((HK1.out.trans HB.out.kept).trans hk2)
      clear hk2
      go_wp2_with fail
      go_ret2
      exact ⟨rfl, HK2.out⟩
    obtain ⟨s, hx⟩ : ∃ x, ss[k]? = some x := ⟨_, List.getElem?_eq_getElem hlt⟩
    have HSM := Lib.hid (hs s (List.mem_of_getElem? hx))
    obtain ⟨hA32, hE32, hF24, _⟩ := srcE_parts s (HSRC.out k s hx)
    have HNX := Lib.hid (HNEXT.out k s hx)
    have hlen := HLEN.out k hk
    obtain ⟨a', c', hv', hc', h3⟩ := HV1.out
    obtain ⟨rfl, hdead, rfl⟩ := Value.slice.inj hv'
    clear hdead hc'
    obtain ⟨g, o, rfl, hg1, hcc⟩ := h3 (by omega)
    obtain ⟨vA, vE, vF, s0, s1, s2, s3, s4, pA, pE, pF⟩ := hcc k s hx
    have t0 := (HB.out.kept.cell (p := ⟨g, _, none⟩) hg1).trans s0
    have t1 := (HB.out.kept.cell (p := ⟨g, _, none⟩) hg1).trans s1
    have t2 := (HB.out.kept.cell (p := ⟨g, _, none⟩) hg1).trans s2
    have t3 := (HB.out.kept.cell (p := ⟨g, _, none⟩) hg1).trans s3
    have t4 := (HB.out.kept.cell (p := ⟨g, _, none⟩) hg1).trans s4
    have hg' : g < wr.heap.size := Nat.lt_of_lt_of_le hg1 HB.out.kept.size
    clear s0 s1 s2 s3 s4
    have hsz1 := HB.out.kept.size
    have HP1 := Lib.hid pA
    have HP2 := Lib.hid pE
    have HP3 := Lib.hid pF
    obtain ⟨aA, cA, rfl, zA, zA'⟩ := pA
    obtain ⟨aE, cE, rfl, zE, zE'⟩ := pE
    obtain ⟨aF, cF, rfl, zF, zF'⟩ := pF
    clear zA' zE' zF'
    have HSM1 := Lib.hid HSM.out.1
    have HSM2 := Lib.hid HSM.out.2.1
    have HSM3 := Lib.hid HSM.out.2.2.1
    have HSRCL : Hid (srcLines s = [headLine s] ++ s.author.map (persLine hAuthor) ++ s.editor.map (persLine hEditor) ++ s.fields.map fldLine ++ [[125]]) := rfl
    have HHL : Hid (headLine s = 64 :: (s.type ++ 123 :: (s.key ++ [44]))) := by show _ = _; simp [headLine]
    have hkl : s.key.length ≤ 1100000 := HSM.out.2.2.2.2.2.2.1
    have htl : s.type.length ≤ 1100000 := HSM.out.2.2.2.2.2.2.2
    have HIN := Lib.hid (HB.out.hold #[.string (bs s.key), .string (bs s.type), .slice aA s.author.length cA, .slice aE s.editor.length cE, .slice aF s.fields.length cF])
    have HKW := Lib.hid HB.out.kept
    clear hcc h3 hv' hx HB HSM
    obtain ⟨key, type, au, ed, fs⟩ := s
    simp only at *
    generalize headLine ⟨key, type, au, ed, fs⟩ = hdl at *
    generalize srcLines ⟨key, type, au, ed, fs⟩ = sls at *
    generalize outL (ss.take k) = xs0 at *
    generalize wr = wo at *
    have hxl0 : xs0.length ≤ 24000 := by omega
    by_cases hk0 : k = 0
    · rw [if_pos hk0, List.append_nil] at HNX
      have hkd : decide (0 < k) = false := by simp; omega
      clear hk0
      obtain ⟨ys5, HY5⟩ : ∃ ys : List Bs, Hid ((xs0 : List Bs) = ys) := ⟨_, Lib.hid rfl⟩
      rw [HY5.out] at HIN
      have hyl5 : ys5.length ≤ 30000 := by rw [← HY5.out]; first | omega | (simp only [List.length_append, List.length_map, List.length_cons, List.length_nil]; omega)
      go_wp2_with (at_builtin; refine wpList_append_lies _ rfl _ _ 29 rfl w1.heap.size 9 i0' (.string ⟨#[]⟩) 1 16 Tryz.underlying29 hi' hz0 hz1 hz2 rfl (by decide) _ _ _ rfl (HIN.out.next (kept_alloc _ _)).own ⟨wo.heap.size + 1, 0, none⟩ 1 1 [.string (bs (64 :: (type ++ 123 :: (key ++ [44]))))] rfl rfl ?_ ?_ ?_ ?_ ?_ ?_ _ rfl ?_)
      · exact new_cells _ #[.string (bs (64 :: (type ++ 123 :: (key ++ [44]))))] _ _ (by simp)
      · intro u hu; simp at hu; subst hu; rfl
      · decide
      · unfold maxLen; omega
      · omega
      · have := HIN.out.kept.size; first | omega | (simp only [World.size_alloc] at this; omega) | (simp only [World.size_alloc]; omega) | (simp only [World.size_alloc] at this ⊢; omega)
      intro g5 cap5 w5 hown5 hgrow5 hat5 hlt5
      have HO5 := Lib.hid ((HIN.out.next (kept_alloc _ _)).push hown5 hgrow5 hat5 (by first | rfl | simp))
      obtain ⟨vv5, hvv⟩ : ∃ v, Value.slice (some ⟨g5, 0, none⟩) (ys5.length + 1) cap5 = v := ⟨_, rfl⟩
      rw [hvv] at HO5 ⊢
      clear hvv
      rw [← HY5.out] at HO5 HIN
      clear hyl5
      clear hown5 hgrow5 hat5 hlt5
      rw [← HHL.out] at HO5
      have HSZ : Hid (∀ {v xs w}, OutI w1 wo.heap.size #[.string (bs key), .string (bs type), .slice aA au.length cA, .slice aE ed.length cE, .slice aF fs.length cF] v xs w → Kept w1 w) := fun h => h.kept
      have e2 : w5.cell? ⟨wo.heap.size, 2, none⟩ = some (.slice aA au.length cA) := HO5.out.blk.cell 2 _ rfl
      have zb := HO5.out.blk.lt
      go_wp2_with fail
      clear e2 zb
      go_loopw [5, 49] (fun v i wr => ∃ k : Nat, k ≤ au.length ∧ i = .int .i64 k ∧ Hid (OutI w1 wo.heap.size #[.string (bs key), .string (bs type), .slice aA au.length cA, .slice aE ed.length cE, .slice aF fs.length cF] v ((xs0 ++ [hdl]) ++ (au.take k).map (persLine hAuthor)) wr)) (fun _ i _ => au.length - (intOf i).toNat)
      case atStart => exact ⟨0, Nat.zero_le _, rfl, Lib.hid (by simpa using HO5.out)⟩
      case round =>
        obtain ⟨k1, hk1, rfl, HI1⟩ := hrel
        by_cases hlt1 : k1 < au.length
        case pos =>
          obtain ⟨p, hx⟩ : ∃ x, au[k1]? = some x := ⟨_, List.getElem?_eq_getElem hlt1⟩
          have HN1 := Lib.hid (pers_next au hAuthor k1 p hx)
          have HSM := Lib.hid (HSM1.out p (List.mem_of_getElem? hx))
          have hln := pers_len au hAuthor k1
          obtain ⟨a', c', hv', hc', h3'⟩ := HP1.out.kept (HSZ.out HI1.out)
          obtain ⟨rfl, hdead, rfl⟩ := Value.slice.inj hv'
          clear hdead hc'
          obtain ⟨gp, op, rfl, hg', hcc⟩ := h3' (by omega)
          obtain ⟨d0, d1, d2, d3⟩ := hcc k1 p hx
          have HLL : Hid (persLine hAuthor p = [97, 117, 116, 104, 111, 114, 32, 61, 32] ++ textR p.1 p.2.1 p.2.2.1 p.2.2.2) := rfl
          obtain ⟨pf, pg, pp, ps⟩ := p
          simp only at d0 d1 d2 d3 HSM HLL
          have HT := Lib.hid (fun w hg => text_any pf pg pp ps w hg (by have := HSM.out; omega))
          have HGR := Lib.hid (HG1.out.kept HI1.out.kept)
          have hXl := textR_len pf pg pp ps
          have hXs := HSM.out
          clear hcc h3' hv' hx
          generalize textE pf pg pp ps = E at *
          generalize textR pf pg pp ps = X at *
          generalize (au.take k1).map (persLine hAuthor) = pre at *
          go_wp2_with fail
          refine (HT.out _ (HGR.out.kept (kept_alloc _ _))).mono ?_
          rintro e w3 ⟨rfl, hk3⟩
          have HO3 := Lib.hid (HI1.out.next ((kept_alloc _ _).trans hk3))
          clear hk3 d0 d1 d2 d3 hg'
          obtain ⟨ys4, HY4⟩ : ∃ ys : List Bs, Hid (((xs0 ++ [hdl]) ++ pre : List Bs) = ys) := ⟨_, Lib.hid rfl⟩
          rw [HY4.out] at HO3
          have hyl4 : ys4.length ≤ 30000 := by rw [← HY4.out]; first | omega | (simp only [List.length_append, List.length_map, List.length_cons, List.length_nil]; omega)
          go_wp2_with (at_builtin; refine wpList_append_lies _ rfl _ _ 29 rfl w1.heap.size 9 i0' (.string ⟨#[]⟩) 1 16 Tryz.underlying29 hi' hz0 hz1 hz2 rfl (by decide) _ _ _ rfl (HO3.out.next (kept_alloc _ _)).own ⟨w3.heap.size, 0, none⟩ 1 1 [.string (bs ([97, 117, 116, 104, 111, 114, 32, 61, 32] ++ X))] rfl rfl ?_ ?_ ?_ ?_ ?_ ?_ _ rfl ?_)
          · exact new_cells _ #[.string (bs ([97, 117, 116, 104, 111, 114, 32, 61, 32] ++ X))] _ _ (by simp)
          · intro u hu; simp at hu; subst hu; rfl
          · decide
          · unfold maxLen; omega
          · omega
          · have := HO3.out.kept.size; first | omega | (simp only [World.size_alloc] at this; omega) | (simp only [World.size_alloc]; omega) | (simp only [World.size_alloc] at this ⊢; omega)
          intro g4 cap4 w4 hown4 hgrow4 hat4 hlt4
          have HO4 := Lib.hid ((HO3.out.next (kept_alloc _ _)).push hown4 hgrow4 hat4 (by first | rfl | simp))
          obtain ⟨vv4, hvv⟩ : ∃ v, Value.slice (some ⟨g4, 0, none⟩) (ys4.length + 1) cap4 = v := ⟨_, rfl⟩
          rw [hvv] at HO4 ⊢
          clear hvv
          rw [← HY4.out] at HO4 HO3
          clear hyl4
          clear hown4 hgrow4 hat4 hlt4
          go_wp2_with fail
          go_roundw
          case rel => exact ⟨k1 + 1, by omega, by go_num, by rw [HN1.out, HLL.out, ← List.append_assoc]; exact HO4.out⟩
          case measure => simp [intOf]; omega
        obtain rfl : k1 = au.length := by omega
        rw [List.take_of_length_le (Nat.le_refl _)] at HI1
        clear hlt1 hk1
        have e3 : wr.cell? ⟨wo.heap.size, 3, none⟩ = some (.slice aE ed.length cE) := HI1.out.blk.cell 3 _ rfl
        have zb := HI1.out.blk.lt
        go_wp2_with fail
        clear e3 zb
        go_loopw [5, 67] (fun v i wr => ∃ k : Nat, k ≤ ed.length ∧ i = .int .i64 k ∧ Hid (OutI w1 wo.heap.size #[.string (bs key), .string (bs type), .slice aA au.length cA, .slice aE ed.length cE, .slice aF fs.length cF] v ((xs0 ++ [hdl] ++ au.map (persLine hAuthor)) ++ (ed.take k).map (persLine hEditor)) wr)) (fun _ i _ => ed.length - (intOf i).toNat)
        case atStart => exact ⟨0, Nat.zero_le _, rfl, Lib.hid (by simpa using HI1.out)⟩
        case round =>
          obtain ⟨k2, hk2, rfl, HI2⟩ := hrel
          by_cases hlt2 : k2 < ed.length
          case pos =>
            obtain ⟨p, hx⟩ : ∃ x, ed[k2]? = some x := ⟨_, List.getElem?_eq_getElem hlt2⟩
            have HN2 := Lib.hid (pers_next ed hEditor k2 p hx)
            have HSM := Lib.hid (HSM2.out p (List.mem_of_getElem? hx))
            have hln := pers_len ed hEditor k2
            obtain ⟨a', c', hv', hc', h3'⟩ := HP2.out.kept (HSZ.out HI2.out)
            obtain ⟨rfl, hdead, rfl⟩ := Value.slice.inj hv'
            clear hdead hc'
            obtain ⟨gp, op, rfl, hg', hcc⟩ := h3' (by omega)
            obtain ⟨d0, d1, d2, d3⟩ := hcc k2 p hx
            have HLL : Hid (persLine hEditor p = [101, 100, 105, 116, 111, 114, 32, 61, 32] ++ textR p.1 p.2.1 p.2.2.1 p.2.2.2) := rfl
            obtain ⟨pf, pg, pp, ps⟩ := p
            simp only at d0 d1 d2 d3 HSM HLL
            have HT := Lib.hid (fun w hg => text_any pf pg pp ps w hg (by have := HSM.out; omega))
            have HGR := Lib.hid (HG1.out.kept HI2.out.kept)
            have hXl := textR_len pf pg pp ps
            have hXs := HSM.out
            clear hcc h3' hv' hx
            generalize textE pf pg pp ps = E at *
            generalize textR pf pg pp ps = X at *
            generalize (ed.take k2).map (persLine hEditor) = pre at *
            go_wp2_with fail
            refine (HT.out _ (HGR.out.kept (kept_alloc _ _))).mono ?_
            rintro e w3 ⟨rfl, hk3⟩
            have HO3 := Lib.hid (HI2.out.next ((kept_alloc _ _).trans hk3))
            clear hk3 d0 d1 d2 d3 hg'
            obtain ⟨ys4, HY4⟩ : ∃ ys : List Bs, Hid (((xs0 ++ [hdl] ++ au.map (persLine hAuthor)) ++ pre : List Bs) = ys) := ⟨_, Lib.hid rfl⟩
            rw [HY4.out] at HO3
            have hyl4 : ys4.length ≤ 30000 := by rw [← HY4.out]; first | omega | (simp only [List.length_append, List.length_map, List.length_cons, List.length_nil]; omega)
            go_wp2_with (at_builtin; refine wpList_append_lies _ rfl _ _ 29 rfl w1.heap.size 9 i0' (.string ⟨#[]⟩) 1 16 Tryz.underlying29 hi' hz0 hz1 hz2 rfl (by decide) _ _ _ rfl (HO3.out.next (kept_alloc _ _)).own ⟨w3.heap.size, 0, none⟩ 1 1 [.string (bs ([101, 100, 105, 116, 111, 114, 32, 61, 32] ++ X))] rfl rfl ?_ ?_ ?_ ?_ ?_ ?_ _ rfl ?_)
            · exact new_cells _ #[.string (bs ([101, 100, 105, 116, 111, 114, 32, 61, 32] ++ X))] _ _ (by simp)
            · intro u hu; simp at hu; subst hu; rfl
            · decide
            · unfold maxLen; omega
            · omega
            · have := HO3.out.kept.size; first | omega | (simp only [World.size_alloc] at this; omega) | (simp only [World.size_alloc]; omega) | (simp only [World.size_alloc] at this ⊢; omega)
            intro g4 cap4 w4 hown4 hgrow4 hat4 hlt4
            have HO4 := Lib.hid ((HO3.out.next (kept_alloc _ _)).push hown4 hgrow4 hat4 (by first | rfl | simp))
            obtain ⟨vv4, hvv⟩ : ∃ v, Value.slice (some ⟨g4, 0, none⟩) (ys4.length + 1) cap4 = v := ⟨_, rfl⟩
            rw [hvv] at HO4 ⊢
            clear hvv
            rw [← HY4.out] at HO4 HO3
            clear hyl4
            clear hown4 hgrow4 hat4 hlt4
            go_wp2_with fail
            go_roundw
            case rel => exact ⟨k2 + 1, by omega, by go_num, by rw [HN2.out, HLL.out, ← List.append_assoc]; exact HO4.out⟩
            case measure => simp [intOf]; omega
          obtain rfl : k2 = ed.length := by omega
          rw [List.take_of_length_le (Nat.le_refl _)] at HI2
          clear hlt2 hk2
          have e4 : wr.cell? ⟨wo.heap.size, 4, none⟩ = some (.slice aF fs.length cF) := HI2.out.blk.cell 4 _ rfl
          have zb := HI2.out.blk.lt
          go_wp2_with fail
          clear e4 zb
          go_loopw [5, 85] (fun v i wr => ∃ k : Nat, k ≤ fs.length ∧ i = .int .i64 k ∧ Hid (OutI w1 wo.heap.size #[.string (bs key), .string (bs type), .slice aA au.length cA, .slice aE ed.length cE, .slice aF fs.length cF] v ((xs0 ++ [hdl] ++ au.map (persLine hAuthor) ++ ed.map (persLine hEditor)) ++ (fs.take k).map fldLine) wr)) (fun _ i _ => fs.length - (intOf i).toNat)
          case atStart => exact ⟨0, Nat.zero_le _, rfl, Lib.hid (by simpa using HI2.out)⟩
          case round =>
            obtain ⟨k3, hk3, rfl, HI3⟩ := hrel
            by_cases hlt3 : k3 < fs.length
            case pos =>
              obtain ⟨p, hx⟩ : ∃ x, fs[k3]? = some x := ⟨_, List.getElem?_eq_getElem hlt3⟩
              have HN3 := Lib.hid (fld_next fs k3 p hx)
              have hln := fld_len fs k3
              obtain ⟨a', c', hv', hc', h3'⟩ := HP3.out.kept (HSZ.out HI3.out)
              obtain ⟨rfl, hdead, rfl⟩ := Value.slice.inj hv'
              clear hdead hc'
              obtain ⟨gp, op, rfl, hg', hcc⟩ := h3' (by omega)
              obtain ⟨d0, d1⟩ := hcc k3 p hx
              have HLL : Hid (fldLine p = p.1 ++ 32 :: 61 :: 32 :: p.2) := by show _ = _; simp [fldLine]
              obtain ⟨hx1, hx2⟩ := HSM3.out p (List.mem_of_getElem? hx)
              obtain ⟨x, y⟩ := p
              simp only at d0 d1 HLL hx1 hx2
              clear hcc h3' hv' hx
              generalize (fs.take k3).map fldLine = pre at *
              have HO3 := Lib.hid (HI3.out.next (kept_alloc _ (.cells #[.string (bs x), .string (bs y)] 62)))
              obtain ⟨ys4, HY4⟩ : ∃ ys : List Bs, Hid (((xs0 ++ [hdl] ++ au.map (persLine hAuthor) ++ ed.map (persLine hEditor)) ++ pre : List Bs) = ys) := ⟨_, Lib.hid rfl⟩
              rw [HY4.out] at HO3
              have hyl4 : ys4.length ≤ 30000 := by rw [← HY4.out]; first | omega | (simp only [List.length_append, List.length_map, List.length_cons, List.length_nil]; omega)
              go_wp2_with (at_builtin; refine wpList_append_lies _ rfl _ _ 29 rfl w1.heap.size 9 i0' (.string ⟨#[]⟩) 1 16 Tryz.underlying29 hi' hz0 hz1 hz2 rfl (by decide) _ _ _ rfl (HO3.out.next (kept_alloc _ _)).own ⟨wr.heap.size + 1, 0, none⟩ 1 1 [.string (bs (x ++ 32 :: 61 :: 32 :: y))] rfl rfl ?_ ?_ ?_ ?_ ?_ ?_ _ rfl ?_)
              · exact new_cells _ #[.string (bs (x ++ 32 :: 61 :: 32 :: y))] _ _ (by simp)
              · intro u hu; simp at hu; subst hu; rfl
              · decide
              · unfold maxLen; omega
              · omega
              · have := HO3.out.kept.size; first | omega | (simp only [World.size_alloc] at this; omega) | (simp only [World.size_alloc]; omega) | (simp only [World.size_alloc] at this ⊢; omega)
              intro g4 cap4 w4 hown4 hgrow4 hat4 hlt4
              have HO4 := Lib.hid ((HO3.out.next (kept_alloc _ _)).push hown4 hgrow4 hat4 (by first | rfl | simp))
              obtain ⟨vv4, hvv⟩ : ∃ v, Value.slice (some ⟨g4, 0, none⟩) (ys4.length + 1) cap4 = v := ⟨_, rfl⟩
              rw [hvv] at HO4 ⊢
              clear hvv
              rw [← HY4.out] at HO4 HO3
              clear hyl4
              clear hown4 hgrow4 hat4 hlt4
              go_wp2_with fail
              go_roundw
              case rel => exact ⟨k3 + 1, by omega, by go_num, by rw [HN3.out, HLL.out, ← List.append_assoc]; exact HO4.out⟩
              case measure => simp [intOf]; omega
            obtain rfl : k3 = fs.length := by omega
            rw [List.take_of_length_le (Nat.le_refl _)] at HI3
            clear hlt3 hk3
            obtain ⟨ys6, HY6⟩ : ∃ ys : List Bs, Hid (((xs0 ++ [hdl] ++ au.map (persLine hAuthor) ++ ed.map (persLine hEditor)) ++ fs.map fldLine : List Bs) = ys) := ⟨_, Lib.hid rfl⟩
            rw [HY6.out] at HI3
            have hyl6 : ys6.length ≤ 30000 := by rw [← HY6.out]; first | omega | (simp only [List.length_append, List.length_map, List.length_cons, List.length_nil]; omega)
            go_wp2_with (at_builtin; refine wpList_append_lies _ rfl _ _ 29 rfl w1.heap.size 9 i0' (.string ⟨#[]⟩) 1 16 Tryz.underlying29 hi' hz0 hz1 hz2 rfl (by decide) _ _ _ rfl (HI3.out.next (kept_alloc _ _)).own ⟨wr.heap.size, 0, none⟩ 1 1 [.string (bs ([125]))] rfl rfl ?_ ?_ ?_ ?_ ?_ ?_ _ rfl ?_)
            · exact new_cells _ #[.string (bs ([125]))] _ _ (by simp)
            · intro u hu; simp at hu; subst hu; rfl
            · decide
            · unfold maxLen; omega
            · omega
            · have := HI3.out.kept.size; first | omega | (simp only [World.size_alloc] at this; omega) | (simp only [World.size_alloc]; omega) | (simp only [World.size_alloc] at this ⊢; omega)
            intro g6 cap6 w6 hown6 hgrow6 hat6 hlt6
            have HO6 := Lib.hid ((HI3.out.next (kept_alloc _ _)).push hown6 hgrow6 hat6 (by first | rfl | simp))
            obtain ⟨vv6, hvv⟩ : ∃ v, Value.slice (some ⟨g6, 0, none⟩) (ys6.length + 1) cap6 = v := ⟨_, rfl⟩
            rw [hvv] at HO6 ⊢
            clear hvv
            rw [← HY6.out] at HO6 HI3
            clear hyl6
            clear hown6 hgrow6 hat6 hlt6
            go_wp2_with fail
            go_roundw
            case rel => exact ⟨k + 1, by omega, by go_num, ⟨by rw [HNX.out, HSRCL.out]; simpa [List.append_assoc] using HO6.out.own, HO6.out.kept⟩⟩
            case measure => simp [intOf]; omega
    · rw [if_neg hk0] at HNX
      have hkd : decide (0 < k) = true := by simp; omega
      clear hk0
      obtain ⟨ys2, HY2⟩ : ∃ ys : List Bs, Hid ((xs0 : List Bs) = ys) := ⟨_, Lib.hid rfl⟩
      rw [HY2.out] at HIN
      have hyl2 : ys2.length ≤ 30000 := by rw [← HY2.out]; first | omega | (simp only [List.length_append, List.length_map, List.length_cons, List.length_nil]; omega)
      go_wp2_with (at_builtin; refine wpList_append_lies _ rfl _ _ 29 rfl w1.heap.size 9 i0' (.string ⟨#[]⟩) 1 16 Tryz.underlying29 hi' hz0 hz1 hz2 rfl (by decide) _ _ _ rfl (HIN.out.next (kept_alloc _ _)).own ⟨wo.heap.size + 1, 0, none⟩ 1 1 [.string (bs ([]))] rfl rfl ?_ ?_ ?_ ?_ ?_ ?_ _ rfl ?_)
      · exact new_cells _ #[.string (bs ([]))] _ _ (by simp)
      · intro u hu; simp at hu; subst hu; rfl
      · decide
      · unfold maxLen; omega
      · omega
      · have := HIN.out.kept.size; first | omega | (simp only [World.size_alloc] at this; omega) | (simp only [World.size_alloc]; omega) | (simp only [World.size_alloc] at this ⊢; omega)
      intro g2 cap2 w2 hown2 hgrow2 hat2 hlt2
      have HO2 := Lib.hid ((HIN.out.next (kept_alloc _ _)).push hown2 hgrow2 hat2 (by first | rfl | simp))
      obtain ⟨vv2, hvv⟩ : ∃ v, Value.slice (some ⟨g2, 0, none⟩) (ys2.length + 1) cap2 = v := ⟨_, rfl⟩
      rw [hvv] at HO2 ⊢
      clear hvv
      rw [← HY2.out] at HO2 HIN
      clear hyl2
      clear hown2 hgrow2 hat2 hlt2
      have e0 : w2.cell? ⟨wo.heap.size, 0, none⟩ = some (.string (bs key)) := HO2.out.blk.cell 0 _ rfl
      have e1 : w2.cell? ⟨wo.heap.size, 1, none⟩ = some (.string (bs type)) := HO2.out.blk.cell 1 _ rfl
      have zb := HO2.out.blk.lt
      obtain ⟨ys5, HY5⟩ : ∃ ys : List Bs, Hid (((xs0 ++ [[]]) : List Bs) = ys) := ⟨_, Lib.hid rfl⟩
      rw [HY5.out] at HO2
      have hyl5 : ys5.length ≤ 30000 := by rw [← HY5.out]; first | omega | (simp only [List.length_append, List.length_map, List.length_cons, List.length_nil]; omega)
      go_wp2_with (at_builtin; refine wpList_append_lies _ rfl _ _ 29 rfl w1.heap.size 9 i0' (.string ⟨#[]⟩) 1 16 Tryz.underlying29 hi' hz0 hz1 hz2 rfl (by decide) _ _ _ rfl (HO2.out.next (kept_alloc _ _)).own ⟨w2.heap.size, 0, none⟩ 1 1 [.string (bs (64 :: (type ++ 123 :: (key ++ [44]))))] rfl rfl ?_ ?_ ?_ ?_ ?_ ?_ _ rfl ?_)
      · exact new_cells _ #[.string (bs (64 :: (type ++ 123 :: (key ++ [44]))))] _ _ (by simp)
      · intro u hu; simp at hu; subst hu; rfl
      · decide
      · unfold maxLen; omega
      · omega
      · have := HO2.out.kept.size; first | omega | (simp only [World.size_alloc] at this; omega) | (simp only [World.size_alloc]; omega) | (simp only [World.size_alloc] at this ⊢; omega)
      intro g5 cap5 w5 hown5 hgrow5 hat5 hlt5
      have HO5 := Lib.hid ((HO2.out.next (kept_alloc _ _)).push hown5 hgrow5 hat5 (by first | rfl | simp))
      obtain ⟨vv5, hvv⟩ : ∃ v, Value.slice (some ⟨g5, 0, none⟩) (ys5.length + 1) cap5 = v := ⟨_, rfl⟩
      rw [hvv] at HO5 ⊢
      clear hvv
      rw [← HY5.out] at HO5 HO2
      clear hyl5
      clear hown5 hgrow5 hat5 hlt5
      rw [← HHL.out] at HO5
      have HSZ : Hid (∀ {v xs w}, OutI w1 wo.heap.size #[.string (bs key), .string (bs type), .slice aA au.length cA, .slice aE ed.length cE, .slice aF fs.length cF] v xs w → Kept w1 w) := fun h => h.kept
      have e2 : w5.cell? ⟨wo.heap.size, 2, none⟩ = some (.slice aA au.length cA) := HO5.out.blk.cell 2 _ rfl
      have zb := HO5.out.blk.lt
      go_wp2_with fail
      clear e2 zb
      go_loopw [5, 49] (fun v i wr => ∃ k : Nat, k ≤ au.length ∧ i = .int .i64 k ∧ Hid (OutI w1 wo.heap.size #[.string (bs key), .string (bs type), .slice aA au.length cA, .slice aE ed.length cE, .slice aF fs.length cF] v (((xs0 ++ [[]]) ++ [hdl]) ++ (au.take k).map (persLine hAuthor)) wr)) (fun _ i _ => au.length - (intOf i).toNat)
      case atStart => exact ⟨0, Nat.zero_le _, rfl, Lib.hid (by simpa using HO5.out)⟩
      case round =>
        obtain ⟨k1, hk1, rfl, HI1⟩ := hrel
        by_cases hlt1 : k1 < au.length
        case pos =>
          obtain ⟨p, hx⟩ : ∃ x, au[k1]? = some x := ⟨_, List.getElem?_eq_getElem hlt1⟩
          have HN1 := Lib.hid (pers_next au hAuthor k1 p hx)
          have HSM := Lib.hid (HSM1.out p (List.mem_of_getElem? hx))
          have hln := pers_len au hAuthor k1
          obtain ⟨a', c', hv', hc', h3'⟩ := HP1.out.kept (HSZ.out HI1.out)
          obtain ⟨rfl, hdead, rfl⟩ := Value.slice.inj hv'
          clear hdead hc'
          obtain ⟨gp, op, rfl, hg', hcc⟩ := h3' (by omega)
          obtain ⟨d0, d1, d2, d3⟩ := hcc k1 p hx
          have HLL : Hid (persLine hAuthor p = [97, 117, 116, 104, 111, 114, 32, 61, 32] ++ textR p.1 p.2.1 p.2.2.1 p.2.2.2) := rfl
          obtain ⟨pf, pg, pp, ps⟩ := p
          simp only at d0 d1 d2 d3 HSM HLL
          have HT := Lib.hid (fun w hg => text_any pf pg pp ps w hg (by have := HSM.out; omega))
          have HGR := Lib.hid (HG1.out.kept HI1.out.kept)
          have hXl := textR_len pf pg pp ps
          have hXs := HSM.out
          clear hcc h3' hv' hx
          generalize textE pf pg pp ps = E at *
          generalize textR pf pg pp ps = X at *
          generalize (au.take k1).map (persLine hAuthor) = pre at *
          go_wp2_with fail
          refine (HT.out _ (HGR.out.kept (kept_alloc _ _))).mono ?_
          rintro e w3 ⟨rfl, hk3⟩
          have HO3 := Lib.hid (HI1.out.next ((kept_alloc _ _).trans hk3))
          clear hk3 d0 d1 d2 d3 hg'
          obtain ⟨ys4, HY4⟩ : ∃ ys : List Bs, Hid ((((xs0 ++ [[]]) ++ [hdl]) ++ pre : List Bs) = ys) := ⟨_, Lib.hid rfl⟩
          rw [HY4.out] at HO3
          have hyl4 : ys4.length ≤ 30000 := by rw [← HY4.out]; first | omega | (simp only [List.length_append, List.length_map, List.length_cons, List.length_nil]; omega)
          go_wp2_with (at_builtin; refine wpList_append_lies _ rfl _ _ 29 rfl w1.heap.size 9 i0' (.string ⟨#[]⟩) 1 16 Tryz.underlying29 hi' hz0 hz1 hz2 rfl (by decide) _ _ _ rfl (HO3.out.next (kept_alloc _ _)).own ⟨w3.heap.size, 0, none⟩ 1 1 [.string (bs ([97, 117, 116, 104, 111, 114, 32, 61, 32] ++ X))] rfl rfl ?_ ?_ ?_ ?_ ?_ ?_ _ rfl ?_)
          · exact new_cells _ #[.string (bs ([97, 117, 116, 104, 111, 114, 32, 61, 32] ++ X))] _ _ (by simp)
          · intro u hu; simp at hu; subst hu; rfl
          · decide
          · unfold maxLen; omega
          · omega
          · have := HO3.out.kept.size; first | omega | (simp only [World.size_alloc] at this; omega) | (simp only [World.size_alloc]; omega) | (simp only [World.size_alloc] at this ⊢; omega)
          intro g4 cap4 w4 hown4 hgrow4 hat4 hlt4
          have HO4 := Lib.hid ((HO3.out.next (kept_alloc _ _)).push hown4 hgrow4 hat4 (by first | rfl | simp))
          obtain ⟨vv4, hvv⟩ : ∃ v, Value.slice (some ⟨g4, 0, none⟩) (ys4.length + 1) cap4 = v := ⟨_, rfl⟩
          rw [hvv] at HO4 ⊢
          clear hvv
          rw [← HY4.out] at HO4 HO3
          clear hyl4
          clear hown4 hgrow4 hat4 hlt4
          go_wp2_with fail
          go_roundw
          case rel => exact ⟨k1 + 1, by omega, by go_num, by rw [HN1.out, HLL.out, ← List.append_assoc]; exact HO4.out⟩
          case measure => simp [intOf]; omega
        obtain rfl : k1 = au.length := by omega
        rw [List.take_of_length_le (Nat.le_refl _)] at HI1
        clear hlt1 hk1
        have e3 : wr.cell? ⟨wo.heap.size, 3, none⟩ = some (.slice aE ed.length cE) := HI1.out.blk.cell 3 _ rfl
        have zb := HI1.out.blk.lt
        go_wp2_with fail
        clear e3 zb
        go_loopw [5, 67] (fun v i wr => ∃ k : Nat, k ≤ ed.length ∧ i = .int .i64 k ∧ Hid (OutI w1 wo.heap.size #[.string (bs key), .string (bs type), .slice aA au.length cA, .slice aE ed.length cE, .slice aF fs.length cF] v (((xs0 ++ [[]]) ++ [hdl] ++ au.map (persLine hAuthor)) ++ (ed.take k).map (persLine hEditor)) wr)) (fun _ i _ => ed.length - (intOf i).toNat)
        case atStart => exact ⟨0, Nat.zero_le _, rfl, Lib.hid (by simpa using HI1.out)⟩
        case round =>
          obtain ⟨k2, hk2, rfl, HI2⟩ := hrel
          by_cases hlt2 : k2 < ed.length
          case pos =>
            obtain ⟨p, hx⟩ : ∃ x, ed[k2]? = some x := ⟨_, List.getElem?_eq_getElem hlt2⟩
            have HN2 := Lib.hid (pers_next ed hEditor k2 p hx)
            have HSM := Lib.hid (HSM2.out p (List.mem_of_getElem? hx))
            have hln := pers_len ed hEditor k2
            obtain ⟨a', c', hv', hc', h3'⟩ := HP2.out.kept (HSZ.out HI2.out)
            obtain ⟨rfl, hdead, rfl⟩ := Value.slice.inj hv'
            clear hdead hc'
            obtain ⟨gp, op, rfl, hg', hcc⟩ := h3' (by omega)
            obtain ⟨d0, d1, d2, d3⟩ := hcc k2 p hx
            have HLL : Hid (persLine hEditor p = [101, 100, 105, 116, 111, 114, 32, 61, 32] ++ textR p.1 p.2.1 p.2.2.1 p.2.2.2) := rfl
            obtain ⟨pf, pg, pp, ps⟩ := p
            simp only at d0 d1 d2 d3 HSM HLL
            have HT := Lib.hid (fun w hg => text_any pf pg pp ps w hg (by have := HSM.out; omega))
            have HGR := Lib.hid (HG1.out.kept HI2.out.kept)
            have hXl := textR_len pf pg pp ps
            have hXs := HSM.out
            clear hcc h3' hv' hx
            generalize textE pf pg pp ps = E at *
            generalize textR pf pg pp ps = X at *
            generalize (ed.take k2).map (persLine hEditor) = pre at *
            go_wp2_with fail
            refine (HT.out _ (HGR.out.kept (kept_alloc _ _))).mono ?_
            rintro e w3 ⟨rfl, hk3⟩
            have HO3 := Lib.hid (HI2.out.next ((kept_alloc _ _).trans hk3))
            clear hk3 d0 d1 d2 d3 hg'
            obtain ⟨ys4, HY4⟩ : ∃ ys : List Bs, Hid ((((xs0 ++ [[]]) ++ [hdl] ++ au.map (persLine hAuthor)) ++ pre : List Bs) = ys) := ⟨_, Lib.hid rfl⟩
            rw [HY4.out] at HO3
            have hyl4 : ys4.length ≤ 30000 := by rw [← HY4.out]; first | omega | (simp only [List.length_append, List.length_map, List.length_cons, List.length_nil]; omega)
            go_wp2_with (at_builtin; refine wpList_append_lies _ rfl _ _ 29 rfl w1.heap.size 9 i0' (.string ⟨#[]⟩) 1 16 Tryz.underlying29 hi' hz0 hz1 hz2 rfl (by decide) _ _ _ rfl (HO3.out.next (kept_alloc _ _)).own ⟨w3.heap.size, 0, none⟩ 1 1 [.string (bs ([101, 100, 105, 116, 111, 114, 32, 61, 32] ++ X))] rfl rfl ?_ ?_ ?_ ?_ ?_ ?_ _ rfl ?_)
            · exact new_cells _ #[.string (bs ([101, 100, 105, 116, 111, 114, 32, 61, 32] ++ X))] _ _ (by simp)
            · intro u hu; simp at hu; subst hu; rfl
            · decide
            · unfold maxLen; omega
            · omega
            · have := HO3.out.kept.size; first | omega | (simp only [World.size_alloc] at this; omega) | (simp only [World.size_alloc]; omega) | (simp only [World.size_alloc] at this ⊢; omega)
            intro g4 cap4 w4 hown4 hgrow4 hat4 hlt4
            have HO4 := Lib.hid ((HO3.out.next (kept_alloc _ _)).push hown4 hgrow4 hat4 (by first | rfl | simp))
            obtain ⟨vv4, hvv⟩ : ∃ v, Value.slice (some ⟨g4, 0, none⟩) (ys4.length + 1) cap4 = v := ⟨_, rfl⟩
            rw [hvv] at HO4 ⊢
            clear hvv
            rw [← HY4.out] at HO4 HO3
            clear hyl4
            clear hown4 hgrow4 hat4 hlt4
            go_wp2_with fail
            go_roundw
            case rel => exact ⟨k2 + 1, by omega, by go_num, by rw [HN2.out, HLL.out, ← List.append_assoc]; exact HO4.out⟩
            case measure => simp [intOf]; omega
          obtain rfl : k2 = ed.length := by omega
          rw [List.take_of_length_le (Nat.le_refl _)] at HI2
          clear hlt2 hk2
          have e4 : wr.cell? ⟨wo.heap.size, 4, none⟩ = some (.slice aF fs.length cF) := HI2.out.blk.cell 4 _ rfl
          have zb := HI2.out.blk.lt
          go_wp2_with fail
          clear e4 zb
          go_loopw [5, 85] (fun v i wr => ∃ k : Nat, k ≤ fs.length ∧ i = .int .i64 k ∧ Hid (OutI w1 wo.heap.size #[.string (bs key), .string (bs type), .slice aA au.length cA, .slice aE ed.length cE, .slice aF fs.length cF] v (((xs0 ++ [[]]) ++ [hdl] ++ au.map (persLine hAuthor) ++ ed.map (persLine hEditor)) ++ (fs.take k).map fldLine) wr)) (fun _ i _ => fs.length - (intOf i).toNat)
          case atStart => exact ⟨0, Nat.zero_le _, rfl, Lib.hid (by simpa using HI2.out)⟩
          case round =>
            obtain ⟨k3, hk3, rfl, HI3⟩ := hrel
            by_cases hlt3 : k3 < fs.length
            case pos =>
              obtain ⟨p, hx⟩ : ∃ x, fs[k3]? = some x := ⟨_, List.getElem?_eq_getElem hlt3⟩
              have HN3 := Lib.hid (fld_next fs k3 p hx)
              have hln := fld_len fs k3
              obtain ⟨a', c', hv', hc', h3'⟩ := HP3.out.kept (HSZ.out HI3.out)
              obtain ⟨rfl, hdead, rfl⟩ := Value.slice.inj hv'
              clear hdead hc'
              obtain ⟨gp, op, rfl, hg', hcc⟩ := h3' (by omega)
              obtain ⟨d0, d1⟩ := hcc k3 p hx
              have HLL : Hid (fldLine p = p.1 ++ 32 :: 61 :: 32 :: p.2) := by show _ = _; simp [fldLine]
              obtain ⟨hx1, hx2⟩ := HSM3.out p (List.mem_of_getElem? hx)
              obtain ⟨x, y⟩ := p
              simp only at d0 d1 HLL hx1 hx2
              clear hcc h3' hv' hx
              generalize (fs.take k3).map fldLine = pre at *
              have HO3 := Lib.hid (HI3.out.next (kept_alloc _ (.cells #[.string (bs x), .string (bs y)] 62)))
              obtain ⟨ys4, HY4⟩ : ∃ ys : List Bs, Hid ((((xs0 ++ [[]]) ++ [hdl] ++ au.map (persLine hAuthor) ++ ed.map (persLine hEditor)) ++ pre : List Bs) = ys) := ⟨_, Lib.hid rfl⟩
              rw [HY4.out] at HO3
              have hyl4 : ys4.length ≤ 30000 := by rw [← HY4.out]; first | omega | (simp only [List.length_append, List.length_map, List.length_cons, List.length_nil]; omega)
              go_wp2_with (at_builtin; refine wpList_append_lies _ rfl _ _ 29 rfl w1.heap.size 9 i0' (.string ⟨#[]⟩) 1 16 Tryz.underlying29 hi' hz0 hz1 hz2 rfl (by decide) _ _ _ rfl (HO3.out.next (kept_alloc _ _)).own ⟨wr.heap.size + 1, 0, none⟩ 1 1 [.string (bs (x ++ 32 :: 61 :: 32 :: y))] rfl rfl ?_ ?_ ?_ ?_ ?_ ?_ _ rfl ?_)
              · exact new_cells _ #[.string (bs (x ++ 32 :: 61 :: 32 :: y))] _ _ (by simp)
              · intro u hu; simp at hu; subst hu; rfl
              · decide
              · unfold maxLen; omega
              · omega
              · have := HO3.out.kept.size; first | omega | (simp only [World.size_alloc] at this; omega) | (simp only [World.size_alloc]; omega) | (simp only [World.size_alloc] at this ⊢; omega)
              intro g4 cap4 w4 hown4 hgrow4 hat4 hlt4
              have HO4 := Lib.hid ((HO3.out.next (kept_alloc _ _)).push hown4 hgrow4 hat4 (by first | rfl | simp))
              obtain ⟨vv4, hvv⟩ : ∃ v, Value.slice (some ⟨g4, 0, none⟩) (ys4.length + 1) cap4 = v := ⟨_, rfl⟩
              rw [hvv] at HO4 ⊢
              clear hvv
              rw [← HY4.out] at HO4 HO3
              clear hyl4
              clear hown4 hgrow4 hat4 hlt4
              go_wp2_with fail
              go_roundw
              case rel => exact ⟨k3 + 1, by omega, by go_num, by rw [HN3.out, HLL.out, ← List.append_assoc]; exact HO4.out⟩
              case measure => simp [intOf]; omega
            obtain rfl : k3 = fs.length := by omega
            rw [List.take_of_length_le (Nat.le_refl _)] at HI3
            clear hlt3 hk3
            obtain ⟨ys6, HY6⟩ : ∃ ys : List Bs, Hid ((((xs0 ++ [[]]) ++ [hdl] ++ au.map (persLine hAuthor) ++ ed.map (persLine hEditor)) ++ fs.map fldLine : List Bs) = ys) := ⟨_, Lib.hid rfl⟩
            rw [HY6.out] at HI3
            have hyl6 : ys6.length ≤ 30000 := by rw [← HY6.out]; first | omega | (simp only [List.length_append, List.length_map, List.length_cons, List.length_nil]; omega)
            go_wp2_with (at_builtin; refine wpList_append_lies _ rfl _ _ 29 rfl w1.heap.size 9 i0' (.string ⟨#[]⟩) 1 16 Tryz.underlying29 hi' hz0 hz1 hz2 rfl (by decide) _ _ _ rfl (HI3.out.next (kept_alloc _ _)).own ⟨wr.heap.size, 0, none⟩ 1 1 [.string (bs ([125]))] rfl rfl ?_ ?_ ?_ ?_ ?_ ?_ _ rfl ?_)
            · exact new_cells _ #[.string (bs ([125]))] _ _ (by simp)
            · intro u hu; simp at hu; subst hu; rfl
            · decide
            · unfold maxLen; omega
            · omega
            · have := HI3.out.kept.size; first | omega | (simp only [World.size_alloc] at this; omega) | (simp only [World.size_alloc]; omega) | (simp only [World.size_alloc] at this ⊢; omega)
            intro g6 cap6 w6 hown6 hgrow6 hat6 hlt6
            have HO6 := Lib.hid ((HI3.out.next (kept_alloc _ _)).push hown6 hgrow6 hat6 (by first | rfl | simp))
            obtain ⟨vv6, hvv⟩ : ∃ v, Value.slice (some ⟨g6, 0, none⟩) (ys6.length + 1) cap6 = v := ⟨_, rfl⟩
            rw [hvv] at HO6 ⊢
            clear hvv
            rw [← HY6.out] at HO6 HI3
            clear hyl6
            clear hown6 hgrow6 hat6 hlt6
            go_wp2_with fail
            go_roundw
            case rel => exact ⟨k + 1, by omega, by go_num, ⟨by rw [HNX.out, HSRCL.out]; simpa [List.append_assoc] using HO6.out.own, HO6.out.kept⟩⟩
            case measure => simp [intOf]; omega
end Go.Proofs.YteflhlbgbgamnaaGreatDoor

/- The length of the text of a bibliography against its weight. No condition. -/
set_option linter.all false
namespace Go.Proofs.YteflhlbgbgamnaaGreatDoor
open Go.RowKit

theorem joinLn_append (xs ys : List Bs) : joinLn (xs ++ ys) = joinLn xs ++ joinLn ys := by simp [joinLn]
theorem joinLn_pers (h : Bs) (hh : h.length = 9) : ∀ ps : List P4, (joinLn (ps.map (persLine h))).length ≤ persW ps
  | [] => by simp [joinLn, persW]
  | p :: ps => by
    have ih := joinLn_pers h hh ps
    have hl := textR_len p.1 p.2.1 p.2.2.1 p.2.2.2
    have e : joinLn ((p :: ps).map (persLine h)) = persLine h p ++ [10] ++ joinLn (ps.map (persLine h)) := by simp [joinLn]
    have e2 : persW (p :: ps) = size4 p + 20 + persW ps := by simp [persW]
    rw [e, e2]
    simp only [List.length_append, persLine, List.length_cons, List.length_nil, hh, size4]
    omega
theorem joinLn_fld : ∀ fs : List Pr, (joinLn (fs.map fldLine)).length ≤ fldW fs
  | [] => by simp [joinLn, fldW]
  | f :: fs => by
    have ih := joinLn_fld fs
    have e : joinLn ((f :: fs).map fldLine) = fldLine f ++ [10] ++ joinLn (fs.map fldLine) := by simp [joinLn]
    have e2 : fldW (f :: fs) = f.1.length + f.2.length + 5 + fldW fs := by simp [fldW]
    rw [e, e2]
    simp only [List.length_append, fldLine, List.length_cons, List.length_nil]
    omega
theorem joinLn_src (s : SrcT) : (joinLn (srcLines s)).length + 1 ≤ srcW s := by
  have h1 := joinLn_pers hAuthor rfl s.author
  have h2 := joinLn_pers hEditor rfl s.editor
  have h3 := joinLn_fld s.fields
  have e1 : (joinLn [headLine s]).length = s.type.length + s.key.length + 4 := by simp [joinLn, headLine]; omega
  have e2 : joinLn [[125]] = [125, 10] := by simp [joinLn]
  unfold srcLines
  simp only [joinLn_append, List.length_append, e1, e2, List.length_cons, List.length_nil]
  unfold srcW
  omega
theorem joinLn_out (ss : List SrcT) : ∀ k, k ≤ ss.length → (joinLn (outL (ss.take k))).length ≤ listW (ss.take k)
  | 0, _ => by simp [outL, joinLn, listW]
  | k + 1, hk => by
    have ih := joinLn_out ss k (by omega)
    obtain ⟨s, hx⟩ : ∃ x, ss[k]? = some x := ⟨_, List.getElem?_eq_getElem (by omega)⟩
    have hs := joinLn_src s
    have e : listW (ss.take (k + 1)) = listW (ss.take k) + srcW s := by
      obtain ⟨hk', rfl⟩ := List.getElem?_eq_some_iff.1 hx
      unfold listW; rw [List.take_succ_eq_append_getElem hk', List.map_append, List.sum_append]; simp
    rw [outL_snoc ss k s hx, joinLn_append, joinLn_append, e]
    simp only [List.length_append]
    have : (joinLn (if k = 0 then [] else [[]])).length ≤ 1 := by split <;> simp [joinLn]
    omega
theorem text_weight (ss : List SrcT) : (joinLn (outL ss)).length ≤ listW ss := by
  have h := joinLn_out ss ss.length (Nat.le_refl _)
  rwa [List.take_length] at h
theorem sum_mem {α : Type} (f : α → Nat) (l : List α) (x : α) (h : x ∈ l) : f x ≤ (l.map f).sum := by
  induction l with
  | nil => cases h
  | cons y l ih =>
    rw [List.map_cons, List.sum_cons]
    rcases List.mem_cons.1 h with rfl | h
    · omega
    · have := ih h; omega
theorem sum_len {α : Type} (f : α → Nat) (l : List α) (hf : ∀ x, 1 ≤ f x) : l.length ≤ (l.map f).sum := by
  induction l with
  | nil => simp
  | cons y l ih => rw [List.map_cons, List.sum_cons, List.length_cons]; have := hf y; omega
theorem small_of (ss : List SrcT) (h : listW ss ≤ 1100000) : ∀ s ∈ ss, SmallS s := by
  intro s hs
  have h0 : srcW s ≤ 1100000 := Nat.le_trans (sum_mem srcW ss s hs) h
  have hA : s.author.length ≤ persW s.author := sum_len _ _ (fun _ => by omega)
  have hE : s.editor.length ≤ persW s.editor := sum_len _ _ (fun _ => by omega)
  have hF : s.fields.length ≤ fldW s.fields := sum_len _ _ (fun _ => by omega)
  unfold srcW at h0
  refine ⟨fun p hp => ?_, fun p hp => ?_, fun p hp => ?_, by omega, by omega, by omega, by omega, by omega⟩
  · have h : size4 p + 20 ≤ persW s.author := sum_mem (fun p => size4 p + 20) s.author p hp
    simp only [size4] at h
    omega
  · have h : size4 p + 20 ≤ persW s.editor := sum_mem (fun p => size4 p + 20) s.editor p hp
    simp only [size4] at h
    omega
  · have h : p.1.length + p.2.length + 5 ≤ fldW s.fields := sum_mem (fun f : Pr => f.1.length + f.2.length + 5) s.fields p hp
    omega
end Go.Proofs.YteflhlbgbgamnaaGreatDoor
