/- bib.Text. Conditions: lengths. -/
import Derived.Test.YtgkgcheegaegnaaGreatDoorT30
import Derived.Test.YtgkgcheegaegnaaGreatDoorT29

set_option linter.all false
namespace Go.Proofs.YtgkgcheegaegnaaGreatDoor
open Go.RowKit

/-- The lines written so far. -/
structure OutB (w0 : World) (v : Value) (xs : List Bs) (wr : World) : Prop where
  own : wr.ownsRow w0.heap.size 9 1 v xs.length (strCells xs)
  kept : Kept w0 wr
/-- The lines written so far, beside the block of the source in hand. -/
structure OutI (w0 : World) (sb : Nat) (cs : Array Value) (v : Value) (xs : List Bs) (wr : World) : Prop where
  own : wr.ownsRow w0.heap.size 9 1 v xs.length (strCells xs)
  blk : Blk wr sb 44 cs
  ne : v.ownBlock ≠ some sb
  kept : Kept w0 wr
theorem OutB.hold {w0 : World} {v : Value} {xs : List Bs} {wr : World} (h : OutB w0 v xs wr) (cs : Array Value) : OutI w0 wr.heap.size cs v xs (wr.alloc (.cells cs 44)) :=
  ⟨own_kept h.own (kept_alloc _ _), Blk.new wr _ cs, fun q => own_ne h.own wr.heap.size (Nat.le_refl _) q.symm, h.kept.trans (kept_alloc _ _)⟩
theorem OutI.drop {w0 : World} {sb : Nat} {cs : Array Value} {v : Value} {xs : List Bs} {wr : World} (h : OutI w0 sb cs v xs wr) : OutB w0 v xs wr := ⟨h.own, h.kept⟩
theorem OutI.next {w0 : World} {sb : Nat} {cs : Array Value} {v : Value} {xs : List Bs} {wr w' : World} (h : OutI w0 sb cs v xs wr) (k : Kept wr w') : OutI w0 sb cs v xs w' :=
  ⟨own_kept h.own k, h.blk.kept k, h.ne, h.kept.trans k⟩
theorem OutI.push {w0 : World} {sb : Nat} {cs : Array Value} {v : Value} {xs : List Bs} {wr w' : World} {y : Bs} {g cap H : Nat} (h : OutI w0 sb cs v xs wr)
    (ho : w'.ownsRow w0.heap.size 9 1 (.slice (some ⟨g, 0, none⟩) (xs.length + 1) cap) (xs.length + 1) (strCells xs ++ [.string (bs y)])) (hg : wr.grownBy w' v.ownBlock) (hat : v.ownBlock = some g ∨ g = H) (hH : wr.heap.size = H) :
    OutI w0 sb cs (.slice (some ⟨g, 0, none⟩) (xs.length + 1) cap) (xs ++ [y]) w' := by
  refine ⟨?_, ?_, ?_, ?_⟩
  · rw [← strCells_snoc] at ho
    simpa using ho
  · exact (hg.block sb h.blk.lt (fun q => h.ne q.symm)).trans h.blk
  · intro q
    simp [Value.ownBlock] at q
    subst q
    rcases hat with e | e
    · exact h.ne e
    · have := h.blk.lt; omega
  · exact h.kept.trans' (grown_below h.own hg h.kept.size)
theorem textR_len (f g p s : Bs) : (textR f g p s).length ≤ f.length + g.length + p.length + s.length + 9 := by
  unfold textR textS
  split
  · simp only [List.length_append]
    split <;> split <;> (try split) <;> simp <;> omega
  · simp
theorem pers_next (ps : List P4) (h : Bs) (k : Nat) (p : P4) (hx : ps[k]? = some p) : (ps.take (k + 1)).map (persLine h) = (ps.take k).map (persLine h) ++ [persLine h p] := by
  obtain ⟨hk, rfl⟩ := List.getElem?_eq_some_iff.1 hx
  rw [List.take_succ_eq_append_getElem hk, List.map_append]; rfl
theorem pers_len (ps : List P4) (h : Bs) (k : Nat) : ((ps.take k).map (persLine h)).length ≤ ps.length := by simp; omega
theorem fld_next (ps : List Pr) (k : Nat) (p : Pr) (hx : ps[k]? = some p) : (ps.take (k + 1)).map fldLine = (ps.take k).map fldLine ++ [fldLine p] := by
  obtain ⟨hk, rfl⟩ := List.getElem?_eq_some_iff.1 hx
  rw [List.take_succ_eq_append_getElem hk, List.map_append]; rfl
theorem fld_len (ps : List Pr) (k : Nat) : ((ps.take k).map fldLine).length ≤ ps.length := by simp; omega
set_option maxRecDepth 100000 in
set_option maxHeartbeats 12800000 in
theorem btext_any (v : Value) (ss : List SrcT) (w : World) (hg : Gnd w) (hv : Srcs w v ss) (hs : ∀ s ∈ ss, SmallS s) (hl : ss.length ≤ 1100000) (hj : (joinLn (outL ss)).length ≤ 1000000000000) :
    Calls Tryz.prog 11 #[v] w fun e w' => e = .returned (.tuple #[.string (bs (textL ss)), .int .i64 (checkE ss)]) ∧ Kept w w' := by
  obtain ⟨i0', hi', hz0, hz1, hz2⟩ := info_parts Tryz.infoStr
  have HV := Lib.hid hv
  have HCK := Lib.hid (check_any v ss w hg hv hs hl)
  have HTX : Hid (textL ss = if checkE ss = 0 then joinLn (outL ss) else []) := rfl
  have HCS := Lib.hid (chk_src ss)
  generalize checkE ss = E at *
  generalize textL ss = X at *
  obtain ⟨a, c, rfl, hc, hh⟩ := hv
  clear hh
  by_cases hE : E = 0
  case neg =>
    rw [if_neg hE] at HTX
    go_enter Tryz.func11, Tryz.ntmps11
    go_wp2_with fail
    refine (HCK.out).mono ?_
    rintro e w1 ⟨rfl, hk1⟩
    have HK1 := Lib.hid hk1
    clear hk1
    go_wp2_with fail
    go_ret2
    exact ⟨by rw [HTX.out]; rfl, HK1.out⟩
  subst hE
  rw [if_pos rfl] at HTX
  obtain ⟨hl256, hsrc⟩ := HCS.out rfl
  have HSRC := Lib.hid hsrc
  have HLEN := Lib.hid (outL_len ss hsrc)
  have HNEXT := Lib.hid (outL_snoc ss)
  clear hsrc HCS
  go_enter Tryz.func11, Tryz.ntmps11
  go_wp2_with fail
  refine (HCK.out).mono ?_
  rintro e w1 ⟨rfl, hk1⟩
  have HK1 := Lib.hid hk1
  have HG1 := Lib.hid (hg.kept hk1)
  have HV1 := Lib.hid (HV.out.kept hk1)
  clear hk1 HV HCK
  go_wp2_with fail
  go_loopw [5, 25] (fun v i wr => ∃ k : Nat, k ≤ ss.length ∧ i = .int .i64 k ∧ Hid (OutB w1 v (outL (ss.take k)) wr)) (fun _ i _ => ss.length - (intOf i).toNat)
  case atStart => exact ⟨0, Nat.zero_le _, rfl, ⟨by simpa [outL, strCells] using World.ownsRow_nil w1 w1.heap.size 9 1, Kept.refl _⟩⟩
  case round =>
    obtain ⟨k, hk, rfl, HB⟩ := hrel
    by_cases hlt : k < ss.length
    case neg =>
      obtain rfl : k = ss.length := by omega
      rw [List.take_of_length_le (Nat.le_refl _)] at HB
      have HLN := Lib.hid (HLEN.out ss.length (Nat.le_refl _))
      rw [List.take_of_length_le (Nat.le_refl _)] at HLN
      have HJ := Lib.hid (ljoin_any _ (outL ss) wr (Strs.own HB.out.own) (by have := HLN.out; omega) hj)
      rw [← HTX.out] at HJ
      clear HLEN HNEXT HSRC
      go_wp2_with fail
      refine (HJ.out).mono ?_
      rintro e w2 ⟨rfl, hk2⟩
      have HK2 := Lib.hid ((HK1.out.trans HB.out.kept).trans hk2)
      clear hk2
      go_wp2_with fail
      go_ret2
      exact ⟨rfl, HK2.out⟩
    obtain ⟨s, hx⟩ : ∃ x, ss[k]? = some x := ⟨_, List.getElem?_eq_getElem hlt⟩
    have HSM := Lib.hid (hs s (List.mem_of_getElem? hx))
    obtain ⟨hA32, hE32, hF24, _⟩ := srcE_parts s (HSRC.out k s hx)
    have HNX := Lib.hid (HNEXT.out k s hx)
    have hlen := HLEN.out k hk
    obtain ⟨a', c', hv', hc', h3⟩ := HV1.out
    obtain ⟨rfl, hdead, rfl⟩ := Value.slice.inj hv'
    clear hdead hc'
    obtain ⟨g, o, rfl, hg1, hcc⟩ := h3 (by omega)
    obtain ⟨vA, vE, vF, s0, s1, s2, s3, s4, pA, pE, pF⟩ := hcc k s hx
    have t0 := (HB.out.kept.cell (p := ⟨g, _, none⟩) hg1).trans s0
    have t1 := (HB.out.kept.cell (p := ⟨g, _, none⟩) hg1).trans s1
    have t2 := (HB.out.kept.cell (p := ⟨g, _, none⟩) hg1).trans s2
    have t3 := (HB.out.kept.cell (p := ⟨g, _, none⟩) hg1).trans s3
    have t4 := (HB.out.kept.cell (p := ⟨g, _, none⟩) hg1).trans s4
    have hg' : g < wr.heap.size := Nat.lt_of_lt_of_le hg1 HB.out.kept.size
    clear s0 s1 s2 s3 s4
    have hsz1 := HB.out.kept.size
    have HP1 := Lib.hid pA
    have HP2 := Lib.hid pE
    have HP3 := Lib.hid pF
    obtain ⟨aA, cA, rfl, zA, zA'⟩ := pA
    obtain ⟨aE, cE, rfl, zE, zE'⟩ := pE
    obtain ⟨aF, cF, rfl, zF, zF'⟩ := pF
    clear zA' zE' zF'
    have HSM1 := Lib.hid HSM.out.1
    have HSM2 := Lib.hid HSM.out.2.1
    have HSM3 := Lib.hid HSM.out.2.2.1
    have HSRCL : Hid (srcLines s = [headLine s] ++ s.author.map (persLine hAuthor) ++ s.editor.map (persLine hEditor) ++ s.fields.map fldLine ++ [[125]]) := rfl
    have HHL : Hid (headLine s = 64 :: (s.type ++ 123 :: (s.key ++ [44]))) := by show _ = _; simp [headLine]
    have hkl : s.key.length ≤ 1100000 := HSM.out.2.2.2.2.2.2.1
    have htl : s.type.length ≤ 1100000 := HSM.out.2.2.2.2.2.2.2
    have HIN := Lib.hid (HB.out.hold #[.string (bs s.key), .string (bs s.type), .slice aA s.author.length cA, .slice aE s.editor.length cE, .slice aF s.fields.length cF])
    have HKW := Lib.hid HB.out.kept
    clear hcc h3 hv' hx HB HSM
    obtain ⟨key, type, au, ed, fs⟩ := s
    simp only at *
    generalize headLine ⟨key, type, au, ed, fs⟩ = hdl at *
    generalize srcLines ⟨key, type, au, ed, fs⟩ = sls at *
    generalize outL (ss.take k) = xs0 at *
    generalize wr = wo at *
    have hxl0 : xs0.length ≤ 24000 := by omega
    by_cases hk0 : k = 0
    · rw [if_pos hk0, List.append_nil] at HNX
      have hkd : decide (0 < k) = false := by simp; omega
      clear hk0
      obtain ⟨ys5, HY5⟩ : ∃ ys : List Bs, Hid ((xs0 : List Bs) = ys) := ⟨_, Lib.hid rfl⟩
      rw [HY5.out] at HIN
      have hyl5 : ys5.length ≤ 30000 := by rw [← HY5.out]; first | omega | (simp only [List.length_append, List.length_map, List.length_cons, List.length_nil]; omega)
      go_wp2_with (at_builtin; refine wpList_append_lies _ rfl _ _ 33 rfl w1.heap.size 9 i0' (.string ⟨#[]⟩) 1 16 Tryz.underlying33 hi' hz0 hz1 hz2 rfl (by decide) _ _ _ rfl (HIN.out.next (kept_alloc _ _)).own ⟨wo.heap.size + 1, 0, none⟩ 1 1 [.string (bs (64 :: (type ++ 123 :: (key ++ [44]))))] rfl rfl ?_ ?_ ?_ ?_ ?_ ?_ _ rfl ?_)
      · exact new_cells _ #[.string (bs (64 :: (type ++ 123 :: (key ++ [44]))))] _ _ (by simp)
      · intro u hu; simp at hu; subst hu; rfl
      · decide
      · unfold maxLen; omega
      · omega
      · have := HIN.out.kept.size; first | omega | (simp only [World.size_alloc] at this; omega) | (simp only [World.size_alloc]; omega) | (simp only [World.size_alloc] at this ⊢; omega)
      intro g5 cap5 w5 hown5 hgrow5 hat5 hlt5
      have HO5 := Lib.hid ((HIN.out.next (kept_alloc _ _)).push hown5 hgrow5 hat5 (by first | rfl | simp))
      obtain ⟨vv5, hvv⟩ : ∃ v, Value.slice (some ⟨g5, 0, none⟩) (ys5.length + 1) cap5 = v := ⟨_, rfl⟩
      rw [hvv] at HO5 ⊢
      clear hvv
      rw [← HY5.out] at HO5 HIN
      clear hyl5
      clear hown5 hgrow5 hat5 hlt5
      rw [← HHL.out] at HO5
      have HSZ : Hid (∀ {v xs w}, OutI w1 wo.heap.size #[.string (bs key), .string (bs type), .slice aA au.length cA, .slice aE ed.length cE, .slice aF fs.length cF] v xs w → Kept w1 w) := fun h => h.kept
      have e2 : w5.cell? ⟨wo.heap.size, 2, none⟩ = some (.slice aA au.length cA) := HO5.out.blk.cell 2 _ rfl
      have zb := HO5.out.blk.lt
      go_wp2_with fail
      clear e2 zb
      go_loopw [5, 49] (fun v i wr => ∃ k : Nat, k ≤ au.length ∧ i = .int .i64 k ∧ Hid (OutI w1 wo.heap.size #[.string (bs key), .string (bs type), .slice aA au.length cA, .slice aE ed.length cE, .slice aF fs.length cF] v ((xs0 ++ [hdl]) ++ (au.take k).map (persLine hAuthor)) wr)) (fun _ i _ => au.length - (intOf i).toNat)
      case atStart => exact ⟨0, Nat.zero_le _, rfl, Lib.hid (by simpa using HO5.out)⟩
      case round =>
        obtain ⟨k1, hk1, rfl, HI1⟩ := hrel
        by_cases hlt1 : k1 < au.length
        case pos =>
          obtain ⟨p, hx⟩ : ∃ x, au[k1]? = some x := ⟨_, List.getElem?_eq_getElem hlt1⟩
          have HN1 := Lib.hid (pers_next au hAuthor k1 p hx)
          have HSM := Lib.hid (HSM1.out p (List.mem_of_getElem? hx))
          have hln := pers_len au hAuthor k1
          obtain ⟨a', c', hv', hc', h3'⟩ := HP1.out.kept (HSZ.out HI1.out)
          obtain ⟨rfl, hdead, rfl⟩ := Value.slice.inj hv'
          clear hdead hc'
          obtain ⟨gp, op, rfl, hg', hcc⟩ := h3' (by omega)
          obtain ⟨d0, d1, d2, d3⟩ := hcc k1 p hx
          have HLL : Hid (persLine hAuthor p = [97, 117, 116, 104, 111, 114, 32, 61, 32] ++ textR p.1 p.2.1 p.2.2.1 p.2.2.2) := rfl
          obtain ⟨pf, pg, pp, ps⟩ := p
          simp only at d0 d1 d2 d3 HSM HLL
          have HT := Lib.hid (fun w hg => text_any pf pg pp ps w hg (by have := HSM.out; omega))
          have HGR := Lib.hid (HG1.out.kept HI1.out.kept)
          have hXl := textR_len pf pg pp ps
          have hXs := HSM.out
          clear hcc h3' hv' hx
          generalize textE pf pg pp ps = E at *
          generalize textR pf pg pp ps = X at *
          generalize (au.take k1).map (persLine hAuthor) = pre at *
          go_wp2_with fail
          refine (HT.out _ (HGR.out.kept (kept_alloc _ _))).mono ?_
          rintro e w3 ⟨rfl, hk3⟩
          have HO3 := Lib.hid (HI1.out.next ((kept_alloc _ _).trans hk3))
          clear hk3 d0 d1 d2 d3 hg'
          obtain ⟨ys4, HY4⟩ : ∃ ys : List Bs, Hid (((xs0 ++ [hdl]) ++ pre : List Bs) = ys) := ⟨_, Lib.hid rfl⟩
          rw [HY4.out] at HO3
          have hyl4 : ys4.length ≤ 30000 := by rw [← HY4.out]; first | omega | (simp only [List.length_append, List.length_map, List.length_cons, List.length_nil]; omega)
          go_wp2_with (at_builtin; refine wpList_append_lies _ rfl _ _ 33 rfl w1.heap.size 9 i0' (.string ⟨#[]⟩) 1 16 Tryz.underlying33 hi' hz0 hz1 hz2 rfl (by decide) _ _ _ rfl (HO3.out.next (kept_alloc _ _)).own ⟨w3.heap.size, 0, none⟩ 1 1 [.string (bs ([97, 117, 116, 104, 111, 114, 32, 61, 32] ++ X))] rfl rfl ?_ ?_ ?_ ?_ ?_ ?_ _ rfl ?_)
          · exact new_cells _ #[.string (bs ([97, 117, 116, 104, 111, 114, 32, 61, 32] ++ X))] _ _ (by simp)
          · intro u hu; simp at hu; subst hu; rfl
          · decide
          · unfold maxLen; omega
          · omega
          · have := HO3.out.kept.size; first | omega | (simp only [World.size_alloc] at this; omega) | (simp only [World.size_alloc]; omega) | (simp only [World.size_alloc] at this ⊢; omega)
          intro g4 cap4 w4 hown4 hgrow4 hat4 hlt4
          have HO4 := Lib.hid ((HO3.out.next (kept_alloc _ _)).push hown4 hgrow4 hat4 (by first | rfl | simp))
          obtain ⟨vv4, hvv⟩ : ∃ v, Value.slice (some ⟨g4, 0, none⟩) (ys4.length + 1) cap4 = v := ⟨_, rfl⟩
          rw [hvv] at HO4 ⊢
          clear hvv
          rw [← HY4.out] at HO4 HO3
          clear hyl4
          clear hown4 hgrow4 hat4 hlt4
          go_wp2_with fail
          go_roundw
          case rel => exact ⟨k1 + 1, by omega, by go_num, by rw [HN1.out, HLL.out, ← List.append_assoc]; exact HO4.out⟩
          case measure => simp [intOf]; omega
        obtain rfl : k1 = au.length := by omega
        rw [List.take_of_length_le (Nat.le_refl _)] at HI1
        clear hlt1 hk1
        have e3 : wr.cell? ⟨wo.heap.size, 3, none⟩ = some (.slice aE ed.length cE) := HI1.out.blk.cell 3 _ rfl
        have zb := HI1.out.blk.lt
        go_wp2_with fail
        clear e3 zb
        go_loopw [5, 67] (fun v i wr => ∃ k : Nat, k ≤ ed.length ∧ i = .int .i64 k ∧ Hid (OutI w1 wo.heap.size #[.string (bs key), .string (bs type), .slice aA au.length cA, .slice aE ed.length cE, .slice aF fs.length cF] v ((xs0 ++ [hdl] ++ au.map (persLine hAuthor)) ++ (ed.take k).map (persLine hEditor)) wr)) (fun _ i _ => ed.length - (intOf i).toNat)
        case atStart => exact ⟨0, Nat.zero_le _, rfl, Lib.hid (by simpa using HI1.out)⟩
        case round =>
          obtain ⟨k2, hk2, rfl, HI2⟩ := hrel
          by_cases hlt2 : k2 < ed.length
          case pos =>
            obtain ⟨p, hx⟩ : ∃ x, ed[k2]? = some x := ⟨_, List.getElem?_eq_getElem hlt2⟩
            have HN2 := Lib.hid (pers_next ed hEditor k2 p hx)
            have HSM := Lib.hid (HSM2.out p (List.mem_of_getElem? hx))
            have hln := pers_len ed hEditor k2
            obtain ⟨a', c', hv', hc', h3'⟩ := HP2.out.kept (HSZ.out HI2.out)
            obtain ⟨rfl, hdead, rfl⟩ := Value.slice.inj hv'
            clear hdead hc'
            obtain ⟨gp, op, rfl, hg', hcc⟩ := h3' (by omega)
            obtain ⟨d0, d1, d2, d3⟩ := hcc k2 p hx
            have HLL : Hid (persLine hEditor p = [101, 100, 105, 116, 111, 114, 32, 61, 32] ++ textR p.1 p.2.1 p.2.2.1 p.2.2.2) := rfl
            obtain ⟨pf, pg, pp, ps⟩ := p
            simp only at d0 d1 d2 d3 HSM HLL
            have HT := Lib.hid (fun w hg => text_any pf pg pp ps w hg (by have := HSM.out; omega))
            have HGR := Lib.hid (HG1.out.kept HI2.out.kept)
            have hXl := textR_len pf pg pp ps
            have hXs := HSM.out
            clear hcc h3' hv' hx
            generalize textE pf pg pp ps = E at *
            generalize textR pf pg pp ps = X at *
            generalize (ed.take k2).map (persLine hEditor) = pre at *
            go_wp2_with fail
            refine (HT.out _ (HGR.out.kept (kept_alloc _ _))).mono ?_
            rintro e w3 ⟨rfl, hk3⟩
            have HO3 := Lib.hid (HI2.out.next ((kept_alloc _ _).trans hk3))
            clear hk3 d0 d1 d2 d3 hg'
            obtain ⟨ys4, HY4⟩ : ∃ ys : List Bs, Hid (((xs0 ++ [hdl] ++ au.map (persLine hAuthor)) ++ pre : List Bs) = ys) := ⟨_, Lib.hid rfl⟩
            rw [HY4.out] at HO3
            have hyl4 : ys4.length ≤ 30000 := by rw [← HY4.out]; first | omega | (simp only [List.length_append, List.length_map, List.length_cons, List.length_nil]; omega)
            go_wp2_with (at_builtin; refine wpList_append_lies _ rfl _ _ 33 rfl w1.heap.size 9 i0' (.string ⟨#[]⟩) 1 16 Tryz.underlying33 hi' hz0 hz1 hz2 rfl (by decide) _ _ _ rfl (HO3.out.next (kept_alloc _ _)).own ⟨w3.heap.size, 0, none⟩ 1 1 [.string (bs ([101, 100, 105, 116, 111, 114, 32, 61, 32] ++ X))] rfl rfl ?_ ?_ ?_ ?_ ?_ ?_ _ rfl ?_)
            · exact new_cells _ #[.string (bs ([101, 100, 105, 116, 111, 114, 32, 61, 32] ++ X))] _ _ (by simp)
            · intro u hu; simp at hu; subst hu; rfl
            · decide
            · unfold maxLen; omega
            · omega
            · have := HO3.out.kept.size; first | omega | (simp only [World.size_alloc] at this; omega) | (simp only [World.size_alloc]; omega) | (simp only [World.size_alloc] at this ⊢; omega)
            intro g4 cap4 w4 hown4 hgrow4 hat4 hlt4
            have HO4 := Lib.hid ((HO3.out.next (kept_alloc _ _)).push hown4 hgrow4 hat4 (by first | rfl | simp))
            obtain ⟨vv4, hvv⟩ : ∃ v, Value.slice (some ⟨g4, 0, none⟩) (ys4.length + 1) cap4 = v := ⟨_, rfl⟩
            rw [hvv] at HO4 ⊢
            clear hvv
            rw [← HY4.out] at HO4 HO3
            clear hyl4
            clear hown4 hgrow4 hat4 hlt4
            go_wp2_with fail
            go_roundw
            case rel => exact ⟨k2 + 1, by omega, by go_num, by rw [HN2.out, HLL.out, ← List.append_assoc]; exact HO4.out⟩
            case measure => simp [intOf]; omega
          obtain rfl : k2 = ed.length := by omega
          rw [List.take_of_length_le (Nat.le_refl _)] at HI2
          clear hlt2 hk2
          have e4 : wr.cell? ⟨wo.heap.size, 4, none⟩ = some (.slice aF fs.length cF) := HI2.out.blk.cell 4 _ rfl
          have zb := HI2.out.blk.lt
          go_wp2_with fail
          clear e4 zb
          go_loopw [5, 85] (fun v i wr => ∃ k : Nat, k ≤ fs.length ∧ i = .int .i64 k ∧ Hid (OutI w1 wo.heap.size #[.string (bs key), .string (bs type), .slice aA au.length cA, .slice aE ed.length cE, .slice aF fs.length cF] v ((xs0 ++ [hdl] ++ au.map (persLine hAuthor) ++ ed.map (persLine hEditor)) ++ (fs.take k).map fldLine) wr)) (fun _ i _ => fs.length - (intOf i).toNat)
          case atStart => exact ⟨0, Nat.zero_le _, rfl, Lib.hid (by simpa using HI2.out)⟩
          case round =>
            obtain ⟨k3, hk3, rfl, HI3⟩ := hrel
            by_cases hlt3 : k3 < fs.length
            case pos =>
              obtain ⟨p, hx⟩ : ∃ x, fs[k3]? = some x := ⟨_, List.getElem?_eq_getElem hlt3⟩
              have HN3 := Lib.hid (fld_next fs k3 p hx)
              have hln := fld_len fs k3
              obtain ⟨a', c', hv', hc', h3'⟩ := HP3.out.kept (HSZ.out HI3.out)
              obtain ⟨rfl, hdead, rfl⟩ := Value.slice.inj hv'
              clear hdead hc'
              obtain ⟨gp, op, rfl, hg', hcc⟩ := h3' (by omega)
              obtain ⟨d0, d1⟩ := hcc k3 p hx
              have HLL : Hid (fldLine p = p.1 ++ 32 :: 61 :: 32 :: p.2) := by show _ = _; simp [fldLine]
              obtain ⟨hx1, hx2⟩ := HSM3.out p (List.mem_of_getElem? hx)
              obtain ⟨x, y⟩ := p
              simp only at d0 d1 HLL hx1 hx2
              clear hcc h3' hv' hx
              generalize (fs.take k3).map fldLine = pre at *
              have HO3 := Lib.hid (HI3.out.next (kept_alloc _ (.cells #[.string (bs x), .string (bs y)] 47)))
              obtain ⟨ys4, HY4⟩ : ∃ ys : List Bs, Hid (((xs0 ++ [hdl] ++ au.map (persLine hAuthor) ++ ed.map (persLine hEditor)) ++ pre : List Bs) = ys) := ⟨_, Lib.hid rfl⟩
              rw [HY4.out] at HO3
              have hyl4 : ys4.length ≤ 30000 := by rw [← HY4.out]; first | omega | (simp only [List.length_append, List.length_map, List.length_cons, List.length_nil]; omega)
              go_wp2_with (at_builtin; refine wpList_append_lies _ rfl _ _ 33 rfl w1.heap.size 9 i0' (.string ⟨#[]⟩) 1 16 Tryz.underlying33 hi' hz0 hz1 hz2 rfl (by decide) _ _ _ rfl (HO3.out.next (kept_alloc _ _)).own ⟨wr.heap.size + 1, 0, none⟩ 1 1 [.string (bs (x ++ 32 :: 61 :: 32 :: y))] rfl rfl ?_ ?_ ?_ ?_ ?_ ?_ _ rfl ?_)
              · exact new_cells _ #[.string (bs (x ++ 32 :: 61 :: 32 :: y))] _ _ (by simp)
              · intro u hu; simp at hu; subst hu; rfl
              · decide
              · unfold maxLen; omega
              · omega
              · have := HO3.out.kept.size; first | omega | (simp only [World.size_alloc] at this; omega) | (simp only [World.size_alloc]; omega) | (simp only [World.size_alloc] at this ⊢; omega)
              intro g4 cap4 w4 hown4 hgrow4 hat4 hlt4
              have HO4 := Lib.hid ((HO3.out.next (kept_alloc _ _)).push hown4 hgrow4 hat4 (by first | rfl | simp))
              obtain ⟨vv4, hvv⟩ : ∃ v, Value.slice (some ⟨g4, 0, none⟩) (ys4.length + 1) cap4 = v := ⟨_, rfl⟩
              rw [hvv] at HO4 ⊢
              clear hvv
              rw [← HY4.out] at HO4 HO3
              clear hyl4
              clear hown4 hgrow4 hat4 hlt4
              go_wp2_with fail
              go_roundw
              case rel => exact ⟨k3 + 1, by omega, by go_num, by rw [HN3.out, HLL.out, ← List.append_assoc]; exact HO4.out⟩
              case measure => simp [intOf]; omega
            obtain rfl : k3 = fs.length := by omega
            rw [List.take_of_length_le (Nat.le_refl _)] at HI3
            clear hlt3 hk3
            obtain ⟨ys6, HY6⟩ : ∃ ys : List Bs, Hid (((xs0 ++ [hdl] ++ au.map (persLine hAuthor) ++ ed.map (persLine hEditor)) ++ fs.map fldLine : List Bs) = ys) := ⟨_, Lib.hid rfl⟩
            rw [HY6.out] at HI3
            have hyl6 : ys6.length ≤ 30000 := by rw [← HY6.out]; first | omega | (simp only [List.length_append, List.length_map, List.length_cons, List.length_nil]; omega)
            go_wp2_with (at_builtin; refine wpList_append_lies _ rfl _ _ 33 rfl w1.heap.size 9 i0' (.string ⟨#[]⟩) 1 16 Tryz.underlying33 hi' hz0 hz1 hz2 rfl (by decide) _ _ _ rfl (HI3.out.next (kept_alloc _ _)).own ⟨wr.heap.size, 0, none⟩ 1 1 [.string (bs ([125]))] rfl rfl ?_ ?_ ?_ ?_ ?_ ?_ _ rfl ?_)
            · exact new_cells _ #[.string (bs ([125]))] _ _ (by simp)
            · intro u hu; simp at hu; subst hu; rfl
            · decide
            · unfold maxLen; omega
            · omega
            · have := HI3.out.kept.size; first | omega | (simp only [World.size_alloc] at this; omega) | (simp only [World.size_alloc]; omega) | (simp only [World.size_alloc] at this ⊢; omega)
            intro g6 cap6 w6 hown6 hgrow6 hat6 hlt6
            have HO6 := Lib.hid ((HI3.out.next (kept_alloc _ _)).push hown6 hgrow6 hat6 (by first | rfl | simp))
            obtain ⟨vv6, hvv⟩ : ∃ v, Value.slice (some ⟨g6, 0, none⟩) (ys6.length + 1) cap6 = v := ⟨_, rfl⟩
            rw [hvv] at HO6 ⊢
            clear hvv
            rw [← HY6.out] at HO6 HI3
            clear hyl6
            clear hown6 hgrow6 hat6 hlt6
            go_wp2_with fail
            go_roundw
            case rel => exact ⟨k + 1, by omega, by go_num, ⟨by rw [HNX.out, HSRCL.out]; simpa [List.append_assoc] using HO6.out.own, HO6.out.kept⟩⟩
            case measure => simp [intOf]; omega
    · rw [if_neg hk0] at HNX
      have hkd : decide (0 < k) = true := by simp; omega
      clear hk0
      obtain ⟨ys2, HY2⟩ : ∃ ys : List Bs, Hid ((xs0 : List Bs) = ys) := ⟨_, Lib.hid rfl⟩
      rw [HY2.out] at HIN
      have hyl2 : ys2.length ≤ 30000 := by rw [← HY2.out]; first | omega | (simp only [List.length_append, List.length_map, List.length_cons, List.length_nil]; omega)
      go_wp2_with (at_builtin; refine wpList_append_lies _ rfl _ _ 33 rfl w1.heap.size 9 i0' (.string ⟨#[]⟩) 1 16 Tryz.underlying33 hi' hz0 hz1 hz2 rfl (by decide) _ _ _ rfl (HIN.out.next (kept_alloc _ _)).own ⟨wo.heap.size + 1, 0, none⟩ 1 1 [.string (bs ([]))] rfl rfl ?_ ?_ ?_ ?_ ?_ ?_ _ rfl ?_)
      · exact new_cells _ #[.string (bs ([]))] _ _ (by simp)
      · intro u hu; simp at hu; subst hu; rfl
      · decide
      · unfold maxLen; omega
      · omega
      · have := HIN.out.kept.size; first | omega | (simp only [World.size_alloc] at this; omega) | (simp only [World.size_alloc]; omega) | (simp only [World.size_alloc] at this ⊢; omega)
      intro g2 cap2 w2 hown2 hgrow2 hat2 hlt2
      have HO2 := Lib.hid ((HIN.out.next (kept_alloc _ _)).push hown2 hgrow2 hat2 (by first | rfl | simp))
      obtain ⟨vv2, hvv⟩ : ∃ v, Value.slice (some ⟨g2, 0, none⟩) (ys2.length + 1) cap2 = v := ⟨_, rfl⟩
      rw [hvv] at HO2 ⊢
      clear hvv
      rw [← HY2.out] at HO2 HIN
      clear hyl2
      clear hown2 hgrow2 hat2 hlt2
      have e0 : w2.cell? ⟨wo.heap.size, 0, none⟩ = some (.string (bs key)) := HO2.out.blk.cell 0 _ rfl
      have e1 : w2.cell? ⟨wo.heap.size, 1, none⟩ = some (.string (bs type)) := HO2.out.blk.cell 1 _ rfl
      have zb := HO2.out.blk.lt
      obtain ⟨ys5, HY5⟩ : ∃ ys : List Bs, Hid (((xs0 ++ [[]]) : List Bs) = ys) := ⟨_, Lib.hid rfl⟩
      rw [HY5.out] at HO2
      have hyl5 : ys5.length ≤ 30000 := by rw [← HY5.out]; first | omega | (simp only [List.length_append, List.length_map, List.length_cons, List.length_nil]; omega)
      go_wp2_with (at_builtin; refine wpList_append_lies _ rfl _ _ 33 rfl w1.heap.size 9 i0' (.string ⟨#[]⟩) 1 16 Tryz.underlying33 hi' hz0 hz1 hz2 rfl (by decide) _ _ _ rfl (HO2.out.next (kept_alloc _ _)).own ⟨w2.heap.size, 0, none⟩ 1 1 [.string (bs (64 :: (type ++ 123 :: (key ++ [44]))))] rfl rfl ?_ ?_ ?_ ?_ ?_ ?_ _ rfl ?_)
      · exact new_cells _ #[.string (bs (64 :: (type ++ 123 :: (key ++ [44]))))] _ _ (by simp)
      · intro u hu; simp at hu; subst hu; rfl
      · decide
      · unfold maxLen; omega
      · omega
      · have := HO2.out.kept.size; first | omega | (simp only [World.size_alloc] at this; omega) | (simp only [World.size_alloc]; omega) | (simp only [World.size_alloc] at this ⊢; omega)
      intro g5 cap5 w5 hown5 hgrow5 hat5 hlt5
      have HO5 := Lib.hid ((HO2.out.next (kept_alloc _ _)).push hown5 hgrow5 hat5 (by first | rfl | simp))
      obtain ⟨vv5, hvv⟩ : ∃ v, Value.slice (some ⟨g5, 0, none⟩) (ys5.length + 1) cap5 = v := ⟨_, rfl⟩
      rw [hvv] at HO5 ⊢
      clear hvv
      rw [← HY5.out] at HO5 HO2
      clear hyl5
      clear hown5 hgrow5 hat5 hlt5
      rw [← HHL.out] at HO5
      have HSZ : Hid (∀ {v xs w}, OutI w1 wo.heap.size #[.string (bs key), .string (bs type), .slice aA au.length cA, .slice aE ed.length cE, .slice aF fs.length cF] v xs w → Kept w1 w) := fun h => h.kept
      have e2 : w5.cell? ⟨wo.heap.size, 2, none⟩ = some (.slice aA au.length cA) := HO5.out.blk.cell 2 _ rfl
      have zb := HO5.out.blk.lt
      go_wp2_with fail
      clear e2 zb
      go_loopw [5, 49] (fun v i wr => ∃ k : Nat, k ≤ au.length ∧ i = .int .i64 k ∧ Hid (OutI w1 wo.heap.size #[.string (bs key), .string (bs type), .slice aA au.length cA, .slice aE ed.length cE, .slice aF fs.length cF] v (((xs0 ++ [[]]) ++ [hdl]) ++ (au.take k).map (persLine hAuthor)) wr)) (fun _ i _ => au.length - (intOf i).toNat)
      case atStart => exact ⟨0, Nat.zero_le _, rfl, Lib.hid (by simpa using HO5.out)⟩
      case round =>
        obtain ⟨k1, hk1, rfl, HI1⟩ := hrel
        by_cases hlt1 : k1 < au.length
        case pos =>
          obtain ⟨p, hx⟩ : ∃ x, au[k1]? = some x := ⟨_, List.getElem?_eq_getElem hlt1⟩
          have HN1 := Lib.hid (pers_next au hAuthor k1 p hx)
          have HSM := Lib.hid (HSM1.out p (List.mem_of_getElem? hx))
          have hln := pers_len au hAuthor k1
          obtain ⟨a', c', hv', hc', h3'⟩ := HP1.out.kept (HSZ.out HI1.out)
          obtain ⟨rfl, hdead, rfl⟩ := Value.slice.inj hv'
          clear hdead hc'
          obtain ⟨gp, op, rfl, hg', hcc⟩ := h3' (by omega)
          obtain ⟨d0, d1, d2, d3⟩ := hcc k1 p hx
          have HLL : Hid (persLine hAuthor p = [97, 117, 116, 104, 111, 114, 32, 61, 32] ++ textR p.1 p.2.1 p.2.2.1 p.2.2.2) := rfl
          obtain ⟨pf, pg, pp, ps⟩ := p
          simp only at d0 d1 d2 d3 HSM HLL
          have HT := Lib.hid (fun w hg => text_any pf pg pp ps w hg (by have := HSM.out; omega))
          have HGR := Lib.hid (HG1.out.kept HI1.out.kept)
          have hXl := textR_len pf pg pp ps
          have hXs := HSM.out
          clear hcc h3' hv' hx
          generalize textE pf pg pp ps = E at *
          generalize textR pf pg pp ps = X at *
          generalize (au.take k1).map (persLine hAuthor) = pre at *
          go_wp2_with fail
          refine (HT.out _ (HGR.out.kept (kept_alloc _ _))).mono ?_
          rintro e w3 ⟨rfl, hk3⟩
          have HO3 := Lib.hid (HI1.out.next ((kept_alloc _ _).trans hk3))
          clear hk3 d0 d1 d2 d3 hg'
          obtain ⟨ys4, HY4⟩ : ∃ ys : List Bs, Hid ((((xs0 ++ [[]]) ++ [hdl]) ++ pre : List Bs) = ys) := ⟨_, Lib.hid rfl⟩
          rw [HY4.out] at HO3
          have hyl4 : ys4.length ≤ 30000 := by rw [← HY4.out]; first | omega | (simp only [List.length_append, List.length_map, List.length_cons, List.length_nil]; omega)
          go_wp2_with (at_builtin; refine wpList_append_lies _ rfl _ _ 33 rfl w1.heap.size 9 i0' (.string ⟨#[]⟩) 1 16 Tryz.underlying33 hi' hz0 hz1 hz2 rfl (by decide) _ _ _ rfl (HO3.out.next (kept_alloc _ _)).own ⟨w3.heap.size, 0, none⟩ 1 1 [.string (bs ([97, 117, 116, 104, 111, 114, 32, 61, 32] ++ X))] rfl rfl ?_ ?_ ?_ ?_ ?_ ?_ _ rfl ?_)
          · exact new_cells _ #[.string (bs ([97, 117, 116, 104, 111, 114, 32, 61, 32] ++ X))] _ _ (by simp)
          · intro u hu; simp at hu; subst hu; rfl
          · decide
          · unfold maxLen; omega
          · omega
          · have := HO3.out.kept.size; first | omega | (simp only [World.size_alloc] at this; omega) | (simp only [World.size_alloc]; omega) | (simp only [World.size_alloc] at this ⊢; omega)
          intro g4 cap4 w4 hown4 hgrow4 hat4 hlt4
          have HO4 := Lib.hid ((HO3.out.next (kept_alloc _ _)).push hown4 hgrow4 hat4 (by first | rfl | simp))
          obtain ⟨vv4, hvv⟩ : ∃ v, Value.slice (some ⟨g4, 0, none⟩) (ys4.length + 1) cap4 = v := ⟨_, rfl⟩
          rw [hvv] at HO4 ⊢
          clear hvv
          rw [← HY4.out] at HO4 HO3
          clear hyl4
          clear hown4 hgrow4 hat4 hlt4
          go_wp2_with fail
          go_roundw
          case rel => exact ⟨k1 + 1, by omega, by go_num, by rw [HN1.out, HLL.out, ← List.append_assoc]; exact HO4.out⟩
          case measure => simp [intOf]; omega
        obtain rfl : k1 = au.length := by omega
        rw [List.take_of_length_le (Nat.le_refl _)] at HI1
        clear hlt1 hk1
        have e3 : wr.cell? ⟨wo.heap.size, 3, none⟩ = some (.slice aE ed.length cE) := HI1.out.blk.cell 3 _ rfl
        have zb := HI1.out.blk.lt
        go_wp2_with fail
        clear e3 zb
        go_loopw [5, 67] (fun v i wr => ∃ k : Nat, k ≤ ed.length ∧ i = .int .i64 k ∧ Hid (OutI w1 wo.heap.size #[.string (bs key), .string (bs type), .slice aA au.length cA, .slice aE ed.length cE, .slice aF fs.length cF] v (((xs0 ++ [[]]) ++ [hdl] ++ au.map (persLine hAuthor)) ++ (ed.take k).map (persLine hEditor)) wr)) (fun _ i _ => ed.length - (intOf i).toNat)
        case atStart => exact ⟨0, Nat.zero_le _, rfl, Lib.hid (by simpa using HI1.out)⟩
        case round =>
          obtain ⟨k2, hk2, rfl, HI2⟩ := hrel
          by_cases hlt2 : k2 < ed.length
          case pos =>
            obtain ⟨p, hx⟩ : ∃ x, ed[k2]? = some x := ⟨_, List.getElem?_eq_getElem hlt2⟩
            have HN2 := Lib.hid (pers_next ed hEditor k2 p hx)
            have HSM := Lib.hid (HSM2.out p (List.mem_of_getElem? hx))
            have hln := pers_len ed hEditor k2
            obtain ⟨a', c', hv', hc', h3'⟩ := HP2.out.kept (HSZ.out HI2.out)
            obtain ⟨rfl, hdead, rfl⟩ := Value.slice.inj hv'
            clear hdead hc'
            obtain ⟨gp, op, rfl, hg', hcc⟩ := h3' (by omega)
            obtain ⟨d0, d1, d2, d3⟩ := hcc k2 p hx
            have HLL : Hid (persLine hEditor p = [101, 100, 105, 116, 111, 114, 32, 61, 32] ++ textR p.1 p.2.1 p.2.2.1 p.2.2.2) := rfl
            obtain ⟨pf, pg, pp, ps⟩ := p
            simp only at d0 d1 d2 d3 HSM HLL
            have HT := Lib.hid (fun w hg => text_any pf pg pp ps w hg (by have := HSM.out; omega))
            have HGR := Lib.hid (HG1.out.kept HI2.out.kept)
            have hXl := textR_len pf pg pp ps
            have hXs := HSM.out
            clear hcc h3' hv' hx
            generalize textE pf pg pp ps = E at *
            generalize textR pf pg pp ps = X at *
            generalize (ed.take k2).map (persLine hEditor) = pre at *
            go_wp2_with fail
            refine (HT.out _ (HGR.out.kept (kept_alloc _ _))).mono ?_
            rintro e w3 ⟨rfl, hk3⟩
            have HO3 := Lib.hid (HI2.out.next ((kept_alloc _ _).trans hk3))
            clear hk3 d0 d1 d2 d3 hg'
            obtain ⟨ys4, HY4⟩ : ∃ ys : List Bs, Hid ((((xs0 ++ [[]]) ++ [hdl] ++ au.map (persLine hAuthor)) ++ pre : List Bs) = ys) := ⟨_, Lib.hid rfl⟩
            rw [HY4.out] at HO3
            have hyl4 : ys4.length ≤ 30000 := by rw [← HY4.out]; first | omega | (simp only [List.length_append, List.length_map, List.length_cons, List.length_nil]; omega)
            go_wp2_with (at_builtin; refine wpList_append_lies _ rfl _ _ 33 rfl w1.heap.size 9 i0' (.string ⟨#[]⟩) 1 16 Tryz.underlying33 hi' hz0 hz1 hz2 rfl (by decide) _ _ _ rfl (HO3.out.next (kept_alloc _ _)).own ⟨w3.heap.size, 0, none⟩ 1 1 [.string (bs ([101, 100, 105, 116, 111, 114, 32, 61, 32] ++ X))] rfl rfl ?_ ?_ ?_ ?_ ?_ ?_ _ rfl ?_)
            · exact new_cells _ #[.string (bs ([101, 100, 105, 116, 111, 114, 32, 61, 32] ++ X))] _ _ (by simp)
            · intro u hu; simp at hu; subst hu; rfl
            · decide
            · unfold maxLen; omega
            · omega
            · have := HO3.out.kept.size; first | omega | (simp only [World.size_alloc] at this; omega) | (simp only [World.size_alloc]; omega) | (simp only [World.size_alloc] at this ⊢; omega)
            intro g4 cap4 w4 hown4 hgrow4 hat4 hlt4
            have HO4 := Lib.hid ((HO3.out.next (kept_alloc _ _)).push hown4 hgrow4 hat4 (by first | rfl | simp))
            obtain ⟨vv4, hvv⟩ : ∃ v, Value.slice (some ⟨g4, 0, none⟩) (ys4.length + 1) cap4 = v := ⟨_, rfl⟩
            rw [hvv] at HO4 ⊢
            clear hvv
            rw [← HY4.out] at HO4 HO3
            clear hyl4
            clear hown4 hgrow4 hat4 hlt4
            go_wp2_with fail
            go_roundw
            case rel => exact ⟨k2 + 1, by omega, by go_num, by rw [HN2.out, HLL.out, ← List.append_assoc]; exact HO4.out⟩
            case measure => simp [intOf]; omega
          obtain rfl : k2 = ed.length := by omega
          rw [List.take_of_length_le (Nat.le_refl _)] at HI2
          clear hlt2 hk2
          have e4 : wr.cell? ⟨wo.heap.size, 4, none⟩ = some (.slice aF fs.length cF) := HI2.out.blk.cell 4 _ rfl
          have zb := HI2.out.blk.lt
          go_wp2_with fail
          clear e4 zb
          go_loopw [5, 85] (fun v i wr => ∃ k : Nat, k ≤ fs.length ∧ i = .int .i64 k ∧ Hid (OutI w1 wo.heap.size #[.string (bs key), .string (bs type), .slice aA au.length cA, .slice aE ed.length cE, .slice aF fs.length cF] v (((xs0 ++ [[]]) ++ [hdl] ++ au.map (persLine hAuthor) ++ ed.map (persLine hEditor)) ++ (fs.take k).map fldLine) wr)) (fun _ i _ => fs.length - (intOf i).toNat)
          case atStart => exact ⟨0, Nat.zero_le _, rfl, Lib.hid (by simpa using HI2.out)⟩
          case round =>
            obtain ⟨k3, hk3, rfl, HI3⟩ := hrel
            by_cases hlt3 : k3 < fs.length
            case pos =>
              obtain ⟨p, hx⟩ : ∃ x, fs[k3]? = some x := ⟨_, List.getElem?_eq_getElem hlt3⟩
              have HN3 := Lib.hid (fld_next fs k3 p hx)
              have hln := fld_len fs k3
              obtain ⟨a', c', hv', hc', h3'⟩ := HP3.out.kept (HSZ.out HI3.out)
              obtain ⟨rfl, hdead, rfl⟩ := Value.slice.inj hv'
              clear hdead hc'
              obtain ⟨gp, op, rfl, hg', hcc⟩ := h3' (by omega)
              obtain ⟨d0, d1⟩ := hcc k3 p hx
              have HLL : Hid (fldLine p = p.1 ++ 32 :: 61 :: 32 :: p.2) := by show _ = _; simp [fldLine]
              obtain ⟨hx1, hx2⟩ := HSM3.out p (List.mem_of_getElem? hx)
              obtain ⟨x, y⟩ := p
              simp only at d0 d1 HLL hx1 hx2
              clear hcc h3' hv' hx
              generalize (fs.take k3).map fldLine = pre at *
              have HO3 := Lib.hid (HI3.out.next (kept_alloc _ (.cells #[.string (bs x), .string (bs y)] 47)))
              obtain ⟨ys4, HY4⟩ : ∃ ys : List Bs, Hid ((((xs0 ++ [[]]) ++ [hdl] ++ au.map (persLine hAuthor) ++ ed.map (persLine hEditor)) ++ pre : List Bs) = ys) := ⟨_, Lib.hid rfl⟩
              rw [HY4.out] at HO3
              have hyl4 : ys4.length ≤ 30000 := by rw [← HY4.out]; first | omega | (simp only [List.length_append, List.length_map, List.length_cons, List.length_nil]; omega)
              go_wp2_with (at_builtin; refine wpList_append_lies _ rfl _ _ 33 rfl w1.heap.size 9 i0' (.string ⟨#[]⟩) 1 16 Tryz.underlying33 hi' hz0 hz1 hz2 rfl (by decide) _ _ _ rfl (HO3.out.next (kept_alloc _ _)).own ⟨wr.heap.size + 1, 0, none⟩ 1 1 [.string (bs (x ++ 32 :: 61 :: 32 :: y))] rfl rfl ?_ ?_ ?_ ?_ ?_ ?_ _ rfl ?_)
              · exact new_cells _ #[.string (bs (x ++ 32 :: 61 :: 32 :: y))] _ _ (by simp)
              · intro u hu; simp at hu; subst hu; rfl
              · decide
              · unfold maxLen; omega
              · omega
              · have := HO3.out.kept.size; first | omega | (simp only [World.size_alloc] at this; omega) | (simp only [World.size_alloc]; omega) | (simp only [World.size_alloc] at this ⊢; omega)
              intro g4 cap4 w4 hown4 hgrow4 hat4 hlt4
              have HO4 := Lib.hid ((HO3.out.next (kept_alloc _ _)).push hown4 hgrow4 hat4 (by first | rfl | simp))
              obtain ⟨vv4, hvv⟩ : ∃ v, Value.slice (some ⟨g4, 0, none⟩) (ys4.length + 1) cap4 = v := ⟨_, rfl⟩
              rw [hvv] at HO4 ⊢
              clear hvv
              rw [← HY4.out] at HO4 HO3
              clear hyl4
              clear hown4 hgrow4 hat4 hlt4
              go_wp2_with fail
              go_roundw
              case rel => exact ⟨k3 + 1, by omega, by go_num, by rw [HN3.out, HLL.out, ← List.append_assoc]; exact HO4.out⟩
              case measure => simp [intOf]; omega
            obtain rfl : k3 = fs.length := by omega
            rw [List.take_of_length_le (Nat.le_refl _)] at HI3
            clear hlt3 hk3
            obtain ⟨ys6, HY6⟩ : ∃ ys : List Bs, Hid ((((xs0 ++ [[]]) ++ [hdl] ++ au.map (persLine hAuthor) ++ ed.map (persLine hEditor)) ++ fs.map fldLine : List Bs) = ys) := ⟨_, Lib.hid rfl⟩
            rw [HY6.out] at HI3
            have hyl6 : ys6.length ≤ 30000 := by rw [← HY6.out]; first | omega | (simp only [List.length_append, List.length_map, List.length_cons, List.length_nil]; omega)
            go_wp2_with (at_builtin; refine wpList_append_lies _ rfl _ _ 33 rfl w1.heap.size 9 i0' (.string ⟨#[]⟩) 1 16 Tryz.underlying33 hi' hz0 hz1 hz2 rfl (by decide) _ _ _ rfl (HI3.out.next (kept_alloc _ _)).own ⟨wr.heap.size, 0, none⟩ 1 1 [.string (bs ([125]))] rfl rfl ?_ ?_ ?_ ?_ ?_ ?_ _ rfl ?_)
            · exact new_cells _ #[.string (bs ([125]))] _ _ (by simp)
            · intro u hu; simp at hu; subst hu; rfl
            · decide
            · unfold maxLen; omega
            · omega
            · have := HI3.out.kept.size; first | omega | (simp only [World.size_alloc] at this; omega) | (simp only [World.size_alloc]; omega) | (simp only [World.size_alloc] at this ⊢; omega)
            intro g6 cap6 w6 hown6 hgrow6 hat6 hlt6
            have HO6 := Lib.hid ((HI3.out.next (kept_alloc _ _)).push hown6 hgrow6 hat6 (by first | rfl | simp))
            obtain ⟨vv6, hvv⟩ : ∃ v, Value.slice (some ⟨g6, 0, none⟩) (ys6.length + 1) cap6 = v := ⟨_, rfl⟩
            rw [hvv] at HO6 ⊢
            clear hvv
            rw [← HY6.out] at HO6 HI3
            clear hyl6
            clear hown6 hgrow6 hat6 hlt6
            go_wp2_with fail
            go_roundw
            case rel => exact ⟨k + 1, by omega, by go_num, ⟨by rw [HNX.out, HSRCL.out]; simpa [List.append_assoc] using HO6.out.own, HO6.out.kept⟩⟩
            case measure => simp [intOf]; omega
end Go.Proofs.YtgkgcheegaegnaaGreatDoor

/- text and Text of publisherref30. Conditions: lengths. -/
set_option linter.all false
namespace Go.Proofs.YtgkgcheegaegnaaGreatDoor
open Go.RowKit

theorem add_bs {P : Program} (a b x : Bs) (n m : Nat) (hx : a ++ b = x) (ha : a.length ≤ n) (hb : b.length ≤ m) (h : n + m ≤ 9223372036854775807) : (∀ w, (Op.stringOp .add (bs a) (bs b)).run P w = .ok (.string (bs x)) w) ∧ x.length ≤ n + m := by
  subst hx
  refine ⟨fun w => ?_, by rw [List.length_append]; omega⟩
  rw [run_string_add_sum w (bs a) (bs b) (by simp only [bs_size]; omega), bs_append]
theorem joinLn_at (xs ys : List Bs) : joinLn (xs ++ ys) = joinLn xs ++ joinLn ys := by simp [joinLn]
/-- The lines of persons as one text. -/
def persT (h : Bs) (ps : List P4) : Bs := joinLn (ps.map (persLine h))
theorem persT_next (h : Bs) (ps : List P4) (k : Nat) (p : P4) (hx : ps[k]? = some p) : persT h (ps.take (k + 1)) = persT h (ps.take k) ++ (h ++ (textR p.1 p.2.1 p.2.2.1 p.2.2.2 ++ [10])) := by
  unfold persT
  rw [pers_next ps h k p hx, joinLn_at]
  simp [joinLn, persLine]
def fldT (fs : List Pr) : Bs := joinLn (fs.map fldLine)
theorem fldT_next (fs : List Pr) (k : Nat) (p : Pr) (hx : fs[k]? = some p) : fldT (fs.take (k + 1)) = fldT (fs.take k) ++ (p.1 ++ ([32, 61, 32] ++ (p.2 ++ [10]))) := by
  unfold fldT
  rw [fld_next fs k p hx, joinLn_at]
  simp [joinLn, fldLine]
theorem srcT_at (s : SrcT) : joinLn (srcLines s) = [64] ++ s.type ++ [123] ++ s.key ++ [44, 10] ++ persT hAuthor s.author ++ persT hEditor s.editor ++ fldT s.fields ++ [125, 10] := by
  unfold srcLines persT fldT
  simp only [joinLn_at]
  simp [joinLn, headLine]
theorem outT_next (ss : List SrcT) (k : Nat) (s : SrcT) (h : ss[k]? = some s) : joinLn (outL (ss.take (k + 1))) = joinLn (outL (ss.take k)) ++ (if k = 0 then [] else [10]) ++ joinLn (srcLines s) := by
  rw [outL_snoc ss k s h, joinLn_at, joinLn_at]
  congr 2
  split <;> simp [joinLn]
theorem persT_le (h : Bs) (ps : List P4) (n : Nat) : (persT h (ps.take n)).length ≤ (persT h ps).length := by
  unfold persT
  rw [List.map_take]
  exact joinLn_le _ n
theorem fldT_le (fs : List Pr) (n : Nat) : (fldT (fs.take n)).length ≤ (fldT fs).length := by
  unfold fldT
  rw [List.map_take]
  exact joinLn_le _ n
theorem outT_le (ss : List SrcT) : ∀ (d n : Nat), n + d = ss.length → (joinLn (outL (ss.take n))).length ≤ (joinLn (outL ss)).length
  | 0, n, h => by rw [List.take_of_length_le (by omega)]; exact Nat.le_refl _
  | d + 1, n, h => by
    obtain ⟨s, hx⟩ : ∃ x, ss[n]? = some x := ⟨_, List.getElem?_eq_getElem (by omega)⟩
    have h1 := outT_le ss d (n + 1) (by omega)
    rw [outT_next ss n s hx] at h1
    simp only [List.length_append] at h1
    omega
set_option maxRecDepth 100000 in
set_option maxHeartbeats 1600000 in
theorem rtx_any (k : Bs) (v : Value) (ps : List P4) (w : World) (hv : Perss w v ps) (hs : SmallP ps) (hl : ps.length ≤ 1100000) (hk0 : k.length ≤ 100) (hT : (persT (k ++ [32, 61, 32]) ps).length ≤ 2000000000000) :
    Calls Tryz.prog 34 #[.string (bs k), v] w fun e w' => e = .returned (.string (bs (persT (k ++ [32, 61, 32]) ps))) ∧ Kept w w' := by
  have HV := Lib.hid hv
  have HNX := Lib.hid (persT_next (k ++ [32, 61, 32]) ps)
  obtain ⟨a, c, rfl, hc, hh⟩ := hv
  clear hh
  go_enter Tryz.func34, Tryz.ntmps34
  go_wp2_with fail
  simp only [mk_bs]
  go_loopw [5, 12] (fun o i wr => ∃ n : Nat, n ≤ ps.length ∧ i = .int .i64 n ∧ o = .string (bs (persT (k ++ [32, 61, 32]) (ps.take n))) ∧ Hid (Kept w wr)) (fun _ i _ => ps.length - (intOf i).toNat)
  case atStart => exact ⟨0, Nat.zero_le _, rfl, rfl, Kept.refl _⟩
  case round =>
    obtain ⟨n, hn, rfl, rfl, HKR⟩ := hrel
    by_cases hlt : n < ps.length
    · obtain ⟨p, hx⟩ : ∃ x, ps[n]? = some x := ⟨_, List.getElem?_eq_getElem hlt⟩
      have HSM := Lib.hid (hs p (List.mem_of_getElem? hx))
      have HAT := Lib.hid (HNX.out n p hx)
      obtain ⟨a', c', hv', hc', h3⟩ := HV.out.kept HKR.out
      obtain ⟨rfl, hdead, rfl⟩ := Value.slice.inj hv'
      clear hdead hc'
      obtain ⟨g, o, rfl, hg', hcc⟩ := h3 (by omega)
      obtain ⟨d0, d1, d2, d3⟩ := hcc n p hx
      obtain ⟨pf, pg, pp, pz⟩ := p
      simp only at d0 d1 d2 d3 HSM HAT
      have HT := Lib.hid (fun w => rtext_any pf pg pp pz w (by have := HSM.out; omega))
      clear hcc h3 hv' hx
      have hP := persT_le (k ++ [32, 61, 32]) ps n
      have hX := textR_len pf pg pp pz
      have hXl : (textR pf pg pp pz).length ≤ 5000000 := by have := HSM.out; omega
      clear hX
      generalize textE pf pg pp pz = E at *
      generalize textR pf pg pp pz = X at *
      generalize persT (k ++ [32, 61, 32]) (ps.take n) = P at *
      have hP2 : P.length ≤ 2000000000000 := by omega
      clear hP
      go_wp2_with fail
      refine (HT.out _).mono ?_
      rintro e w3 ⟨rfl, hk3⟩
      have HK3 := Lib.hid ((HKR.out.trans (kept_alloc _ _)).trans hk3)
      clear hk3 d0 d1 d2 d3 hg'
      go_wp2_with fail
      go_roundw
      case rel => exact ⟨n + 1, by omega, by go_num, by rw [HAT.out]; simp, HK3⟩
      case measure => simp [intOf]; omega
    · obtain rfl : n = ps.length := by omega
      rw [List.take_length]
      go_wp2_with fail
      go_ret
      exact ⟨rfl, HKR.out⟩
set_option maxRecDepth 100000 in
set_option maxHeartbeats 12800000 in
theorem rbtext_any (v : Value) (ss : List SrcT) (w : World) (hv : Srcs w v ss) (hs : ∀ s ∈ ss, SmallS s) (hl : ss.length ≤ 1100000) (hj : (joinLn (outL ss)).length ≤ 1000000000000) :
    Calls Tryz.prog 12 #[v] w fun e w' => e = .returned (.tuple #[.string (bs (textL ss)), .int .i64 (checkE ss)]) ∧ Kept w w' := by
  have HV := Lib.hid hv
  have HCK := Lib.hid (rcheck_any v ss w hv hs hl)
  have HTX : Hid (textL ss = if checkE ss = 0 then joinLn (outL ss) else []) := rfl
  have HNX := Lib.hid (outT_next ss)
  generalize checkE ss = E at *
  generalize textL ss = X at *
  obtain ⟨a, c, rfl, hc, hh⟩ := hv
  clear hh
  by_cases hE : E = 0
  case neg =>
    rw [if_neg hE] at HTX
    go_enter Tryz.func12, Tryz.ntmps12
    go_wp2_with fail
    refine (HCK.out).mono ?_
    rintro e w1 ⟨rfl, hk1⟩
    have HK1 := Lib.hid hk1
    clear hk1
    go_wp2_with fail
    go_ret2
    exact ⟨by rw [HTX.out]; rfl, HK1.out⟩
  subst hE
  rw [if_pos rfl] at HTX
  go_enter Tryz.func12, Tryz.ntmps12
  go_wp2_with fail
  refine (HCK.out).mono ?_
  rintro e w1 ⟨rfl, hk1⟩
  have HK1 := Lib.hid hk1
  clear hk1 HCK
  go_wp2_with fail
  simp only [mk_bs]
  go_loopw [5, 17] (fun o i wr => ∃ n : Nat, n ≤ ss.length ∧ i = .int .i64 n ∧ o = .string (bs (joinLn (outL (ss.take n)))) ∧ Hid (Kept w wr)) (fun _ i _ => ss.length - (intOf i).toNat)
  case atStart => exact ⟨0, Nat.zero_le _, rfl, rfl, HK1⟩
  case round =>
    obtain ⟨n, hn, rfl, rfl, HKR⟩ := hrel
    by_cases hlt : n < ss.length
    case neg =>
      obtain rfl : n = ss.length := by omega
      rw [List.take_length, ← HTX.out]
      go_wp2_with fail
      go_ret2
      exact ⟨rfl, HKR.out⟩
    obtain ⟨s, hx⟩ : ∃ x, ss[n]? = some x := ⟨_, List.getElem?_eq_getElem hlt⟩
    have HSM := Lib.hid (hs s (List.mem_of_getElem? hx))
    have HAT := Lib.hid (HNX.out n s hx)
    rw [srcT_at] at HAT
    have HLA : Hid ((joinLn (outL (ss.take n))).length + 1 + (s.type.length + (s.key.length + ((persT hAuthor s.author).length + ((persT hEditor s.editor).length + (fldT s.fields).length)))) ≤ 2000000000000) := by
      show _ ≤ _
      have h1 := outT_le ss (ss.length - (n + 1)) (n + 1) (by omega)
      rw [HAT.out] at h1
      simp only [List.length_append, List.length_cons, List.length_nil] at h1
      omega
    have HLA2 := Lib.hid (fldT_le s.fields)
    obtain ⟨a', c', hv', hc', h3⟩ := HV.out
    obtain ⟨rfl, hdead, rfl⟩ := Value.slice.inj hv'
    clear hdead hc'
    obtain ⟨g, o, rfl, hg', hcc⟩ := h3 (by omega)
    obtain ⟨vA, vE, vF, t0, t1, t2, t3, t4, pA, pE, pF⟩ := hcc n s hx
    have d0 := (HKR.out.cell (p := ⟨g, _, none⟩) hg').trans t0
    have d1 := (HKR.out.cell (p := ⟨g, _, none⟩) hg').trans t1
    have d2 := (HKR.out.cell (p := ⟨g, _, none⟩) hg').trans t2
    have d3 := (HKR.out.cell (p := ⟨g, _, none⟩) hg').trans t3
    have d4 := (HKR.out.cell (p := ⟨g, _, none⟩) hg').trans t4
    clear t0 t1 t2 t3 t4
    have hg2 : g < wr.heap.size := Nat.lt_of_lt_of_le hg' HKR.out.size
    have HK0 := Lib.hid (HKR.out.trans (kept_alloc wr (.cells #[.string (bs s.key), .string (bs s.type), vA, vE, vF] 44)))
    have HTA := Lib.hid (fun w' (h : Kept (wr.alloc (.cells #[.string (bs s.key), .string (bs s.type), vA, vE, vF] 44)) w') => rtx_any [97, 117, 116, 104, 111, 114] vA s.author w' (pA.kept ((HKR.out.trans (kept_alloc wr _)).trans h)) HSM.out.1 HSM.out.2.2.2.1 (by decide) (by have := HLA.out; show (persT hAuthor s.author).length ≤ _; omega))
    have HTE := Lib.hid (fun w' (h : Kept (wr.alloc (.cells #[.string (bs s.key), .string (bs s.type), vA, vE, vF] 44)) w') => rtx_any [101, 100, 105, 116, 111, 114] vE s.editor w' (pE.kept ((HKR.out.trans (kept_alloc wr _)).trans h)) HSM.out.2.1 HSM.out.2.2.2.2.1 (by decide) (by have := HLA.out; show (persT hEditor s.editor).length ≤ _; omega))
    have HPF := Lib.hid (fun w' (h : Kept w w') => pF.kept h)
    obtain ⟨aA, cA, rfl, zA, zA'⟩ := pA
    obtain ⟨aE, cE, rfl, zE, zE'⟩ := pE
    obtain ⟨aF, cF, rfl, zF, zF'⟩ := pF
    clear zA zA' zE zE' zF'
    have HBK := Lib.hid (Blk.new wr 44 #[.string (bs s.key), .string (bs s.type), .slice aA s.author.length cA, .slice aE s.editor.length cE, .slice aF s.fields.length cF])
    have hFl : s.fields.length ≤ 1100000 := HSM.out.2.2.2.2.2.1
    clear hcc h3 hv' hx
    rw [show [97, 117, 116, 104, 111, 114] ++ [32, 61, 32] = hAuthor from rfl] at HTA
    rw [show [101, 100, 105, 116, 111, 114] ++ [32, 61, 32] = hEditor from rfl] at HTE
    generalize joinLn (outL (ss.take n)) = P at *
    generalize persT hAuthor s.author = TA at *
    generalize persT hEditor s.editor = TE at *
    have hl1 : P.length ≤ 2000000000000 := by have := HLA.out; omega
    have hl2 : s.type.length ≤ 2000000000000 := by have := HLA.out; omega
    have hl3 : s.key.length ≤ 2000000000000 := by have := HLA.out; omega
    have hl4 : TA.length ≤ 2000000000000 := by have := HLA.out; omega
    have hl5 : TE.length ≤ 2000000000000 := by have := HLA.out; omega
    obtain ⟨P2, HP2⟩ : ∃ P2, Hid ((P ++ (if n = 0 then [] else [10])) = P2) := ⟨_, Lib.hid rfl⟩
    have HZ : Hid (decide (0 < n) = false → P2 = P) := by
      intro h
      rw [← HP2.out, if_pos (by simpa using h), List.append_nil]
    have HNZ : Hid (decide (0 < n) = true → P2 = P ++ [10]) := by
      intro h
      have h2 : 0 < n := by simpa using h
      rw [← HP2.out, if_neg (by omega)]
    rw [HP2.out] at HAT
    clear HP2
    have hw1 : ∃ w1', w1' = wr.alloc (.cells #[.string (bs s.key), .string (bs s.type), .slice aA s.author.length cA, .slice aE s.editor.length cE, .slice aF s.fields.length cF] 44) := ⟨_, rfl⟩
    cases hz : decide (0 < n)
    · obtain rfl := HZ.out hz
      clear HZ HNZ
      have hl9 : P2.length ≤ 3000000000000 := by omega
      obtain ⟨X1, HX1⟩ : ∃ X, Hid (P2 ++ [64] = X) := ⟨_, Lib.hid rfl⟩
      obtain ⟨k1, hb1⟩ := add_bs (P := Tryz.prog) P2 [64] X1 _ 1 HX1.out hl9 (by simp) (by omega)
      obtain ⟨X2, HX2⟩ : ∃ X, Hid (X1 ++ s.type = X) := ⟨_, Lib.hid rfl⟩
      obtain ⟨k2, hb2⟩ := add_bs (P := Tryz.prog) X1 s.type X2 _ 2000000000000 HX2.out hb1 hl2 (by omega)
      obtain ⟨X3, HX3⟩ : ∃ X, Hid (X2 ++ [123] = X) := ⟨_, Lib.hid rfl⟩
      obtain ⟨k3, hb3⟩ := add_bs (P := Tryz.prog) X2 [123] X3 _ 1 HX3.out hb2 (by simp) (by omega)
      obtain ⟨X4, HX4⟩ : ∃ X, Hid (X3 ++ s.key = X) := ⟨_, Lib.hid rfl⟩
      obtain ⟨k4, hb4⟩ := add_bs (P := Tryz.prog) X3 s.key X4 _ 2000000000000 HX4.out hb3 hl3 (by omega)
      obtain ⟨X5, HX5⟩ : ∃ X, Hid (X4 ++ [44, 10] = X) := ⟨_, Lib.hid rfl⟩
      obtain ⟨k5, hb5⟩ := add_bs (P := Tryz.prog) X4 [44, 10] X5 _ 2 HX5.out hb4 (by simp) (by omega)
      obtain ⟨X6, HX6⟩ : ∃ X, Hid (X5 ++ TA = X) := ⟨_, Lib.hid rfl⟩
      obtain ⟨k6, hb6⟩ := add_bs (P := Tryz.prog) X5 TA X6 _ 2000000000000 HX6.out hb5 hl4 (by omega)
      obtain ⟨X7, HX7⟩ : ∃ X, Hid (X6 ++ TE = X) := ⟨_, Lib.hid rfl⟩
      obtain ⟨k7, hb7⟩ := add_bs (P := Tryz.prog) X6 TE X7 _ 2000000000000 HX7.out hb6 hl5 (by omega)
      have HB7 : Hid (X7.length ≤ 20000000000000) := by show _ ≤ _; omega
      have HQ : Hid (X7 = P2 ++ ([64] ++ (s.type ++ ([123] ++ (s.key ++ ([44, 10] ++ (TA ++ TE))))))) := by
        show _ = _
        rw [← HX7.out, ← HX6.out, ← HX5.out, ← HX4.out, ← HX3.out, ← HX2.out, ← HX1.out]; simp
      clear hb1 hb2 hb3 hb4 hb5 hb6 hb7
      go_wp2_with fail
      generalize wr.alloc (.cells #[.string (bs s.key), .string (bs s.type), .slice aA s.author.length cA, .slice aE s.editor.length cE, .slice aF s.fields.length cF] 44) = w1' at *
      generalize hBB : wr.heap.size = B at *
      clear d0 d1 d2 d3 d4 hg' hg2 hw1
      have HC : Hid (∀ w', Kept w1' w' → (w'.cell? ⟨B, 0, none⟩ = some (.string (bs s.key)) ∧ w'.cell? ⟨B, 1, none⟩ = some (.string (bs s.type)) ∧ w'.cell? ⟨B, 2, none⟩ = some (.slice aA s.author.length cA) ∧ w'.cell? ⟨B, 3, none⟩ = some (.slice aE s.editor.length cE)) ∧ B < w'.heap.size ∧ Kept w1' w') := fun w' h => ⟨⟨(HBK.out.kept h).cell 0 _ rfl, (HBK.out.kept h).cell 1 _ rfl, (HBK.out.kept h).cell 2 _ rfl, (HBK.out.kept h).cell 3 _ rfl⟩, (HBK.out.kept h).lt, h⟩
      have hKd : Kept w1' w1'.drew := kept_drewN w1' 1
      go_region_held3 (fun w' => (w'.cell? ⟨B, 0, none⟩ = some (.string (bs s.key)) ∧ w'.cell? ⟨B, 1, none⟩ = some (.string (bs s.type)) ∧ w'.cell? ⟨B, 2, none⟩ = some (.slice aA s.author.length cA) ∧ w'.cell? ⟨B, 3, none⟩ = some (.slice aE s.editor.length cE)) ∧ B < w'.heap.size ∧ Kept w1' w')
        ((refine HC.out _ ?_; first | assumption | exact Kept.refl _))
        (first
          | (go_at_call_of 34 (Value.string (bs [97, 117, 116, 104, 111, 114])); refine (HTA.out _ kE).mono ?_; rintro e w4 ⟨rfl, hk⟩; have kZ := Kept.trans kE hk; clear hk)
          | (go_at_call_of 34 (Value.string (bs [101, 100, 105, 116, 111, 114])); refine (HTE.out _ kA).mono ?_; rintro e w4 ⟨rfl, hk⟩; have kZ := Kept.trans kA hk; clear hk)
          | (go_at_call_of 34 (Value.string (bs [97, 117, 116, 104, 111, 114])); refine (HTA.out _ hKd).mono ?_; rintro e w3 ⟨rfl, hk⟩; have kA := Kept.trans hKd hk; clear hk)
          | (go_at_call_of 34 (Value.string (bs [101, 100, 105, 116, 111, 114])); refine (HTE.out _ hKd).mono ?_; rintro e w3 ⟨rfl, hk⟩; have kE := Kept.trans hKd hk; clear hk))
      all_goals
        have HK4 := Lib.hid (HK0.out.trans kZ)
        have HB4 := Lib.hid (HBK.out.kept kZ)
        have HF4 := Lib.hid (HPF.out _ HK4.out)
        clear kZ HC hKd HTA HTE k1 k2 k3 k4 k5 k6 k7
        try clear kA
        try clear kE
        have c4 : w4.cell? ⟨B, 4, none⟩ = some (.slice aF s.fields.length cF) := HB4.out.cell 4 _ rfl
        have z4 := HB4.out.lt
        go_wp2_with fail
        try simp only [mk_bs]
        generalize wr = wo at *
        go_loopw [5, 47] (fun o i wr => ∃ m : Nat, m ≤ s.fields.length ∧ i = .int .i64 m ∧ o = .string (bs (X7 ++ fldT (s.fields.take m))) ∧ Hid (Kept w4 wr)) (fun _ i _ => s.fields.length - (intOf i).toNat)
        case atStart => exact ⟨0, Nat.zero_le _, rfl, by simp [fldT, joinLn], Kept.refl _⟩
        case round =>
          obtain ⟨m, hm, rfl, rfl, HKM⟩ := hrel
          by_cases hmk : m < s.fields.length
          · obtain ⟨q, hq⟩ : ∃ q, s.fields[m]? = some q := ⟨_, List.getElem?_eq_getElem hmk⟩
            have HFN := Lib.hid (fldT_next s.fields m q hq)
            obtain ⟨a', c', hv', hc', h3⟩ := HF4.out.kept HKM.out
            obtain ⟨rfl, hdead, rfl⟩ := Value.slice.inj hv'
            clear hdead hc'
            obtain ⟨g2, o2, rfl, hg2, hcc2⟩ := h3 (by omega)
            obtain ⟨q0, q1⟩ := hcc2 m q hq
            obtain ⟨HQ1, HQ2⟩ := HSM.out.2.2.1 q (List.mem_of_getElem? hq)
            obtain ⟨qa, qb⟩ := q
            simp only at q0 q1 HFN HQ1 HQ2
            clear hcc2 h3 hv' hq c4
            have hl6 : (fldT (s.fields.take m)).length ≤ 2000000000000 := by have := HLA.out; have := HLA2.out m; omega
            have hl7 : qa.length ≤ 1100000 := HQ1
            have hl8 : qb.length ≤ 1100000 := HQ2
            have hl10 : X7.length ≤ 20000000000000 := HB7.out
            generalize fldT (s.fields.take m) = FM at *
            go_wp2_with fail
            go_roundw
            case rel => exact ⟨m + 1, by omega, by go_num, by rw [HFN.out]; simp, HKM.out.trans (kept_alloc _ _)⟩
            case measure => simp [intOf]; omega
          · obtain rfl : m = s.fields.length := by omega
            rw [List.take_length]
            have hl10 : X7.length ≤ 20000000000000 := HB7.out
            have hl11 : (fldT s.fields).length ≤ 2000000000000 := by have := HLA.out; omega
            clear c4
            go_wp2_with fail
            go_roundw
            case rel => exact ⟨n + 1, by omega, by go_num, by rw [HAT.out, HQ.out]; simp, HK4.out.trans HKM.out⟩
            case measure => simp [intOf]; omega
    · obtain rfl := HNZ.out hz
      clear HZ HNZ
      go_wp2_with fail
      have hl9 : (P ++ [10]).length ≤ 3000000000000 := by rw [List.length_append]; simp only [List.length_cons, List.length_nil]; omega
      generalize P ++ [10] = P2 at *
      obtain ⟨X1, HX1⟩ : ∃ X, Hid (P2 ++ [64] = X) := ⟨_, Lib.hid rfl⟩
      obtain ⟨k1, hb1⟩ := add_bs (P := Tryz.prog) P2 [64] X1 _ 1 HX1.out hl9 (by simp) (by omega)
      obtain ⟨X2, HX2⟩ : ∃ X, Hid (X1 ++ s.type = X) := ⟨_, Lib.hid rfl⟩
      obtain ⟨k2, hb2⟩ := add_bs (P := Tryz.prog) X1 s.type X2 _ 2000000000000 HX2.out hb1 hl2 (by omega)
      obtain ⟨X3, HX3⟩ : ∃ X, Hid (X2 ++ [123] = X) := ⟨_, Lib.hid rfl⟩
      obtain ⟨k3, hb3⟩ := add_bs (P := Tryz.prog) X2 [123] X3 _ 1 HX3.out hb2 (by simp) (by omega)
      obtain ⟨X4, HX4⟩ : ∃ X, Hid (X3 ++ s.key = X) := ⟨_, Lib.hid rfl⟩
      obtain ⟨k4, hb4⟩ := add_bs (P := Tryz.prog) X3 s.key X4 _ 2000000000000 HX4.out hb3 hl3 (by omega)
      obtain ⟨X5, HX5⟩ : ∃ X, Hid (X4 ++ [44, 10] = X) := ⟨_, Lib.hid rfl⟩
      obtain ⟨k5, hb5⟩ := add_bs (P := Tryz.prog) X4 [44, 10] X5 _ 2 HX5.out hb4 (by simp) (by omega)
      obtain ⟨X6, HX6⟩ : ∃ X, Hid (X5 ++ TA = X) := ⟨_, Lib.hid rfl⟩
      obtain ⟨k6, hb6⟩ := add_bs (P := Tryz.prog) X5 TA X6 _ 2000000000000 HX6.out hb5 hl4 (by omega)
      obtain ⟨X7, HX7⟩ : ∃ X, Hid (X6 ++ TE = X) := ⟨_, Lib.hid rfl⟩
      obtain ⟨k7, hb7⟩ := add_bs (P := Tryz.prog) X6 TE X7 _ 2000000000000 HX7.out hb6 hl5 (by omega)
      have HB7 : Hid (X7.length ≤ 20000000000000) := by show _ ≤ _; omega
      have HQ : Hid (X7 = P2 ++ ([64] ++ (s.type ++ ([123] ++ (s.key ++ ([44, 10] ++ (TA ++ TE))))))) := by
        show _ = _
        rw [← HX7.out, ← HX6.out, ← HX5.out, ← HX4.out, ← HX3.out, ← HX2.out, ← HX1.out]; simp
      clear hb1 hb2 hb3 hb4 hb5 hb6 hb7
      generalize wr.alloc (.cells #[.string (bs s.key), .string (bs s.type), .slice aA s.author.length cA, .slice aE s.editor.length cE, .slice aF s.fields.length cF] 44) = w1' at *
      generalize hBB : wr.heap.size = B at *
      clear d0 d1 d2 d3 d4 hg' hg2 hw1
      have HC : Hid (∀ w', Kept w1' w' → (w'.cell? ⟨B, 0, none⟩ = some (.string (bs s.key)) ∧ w'.cell? ⟨B, 1, none⟩ = some (.string (bs s.type)) ∧ w'.cell? ⟨B, 2, none⟩ = some (.slice aA s.author.length cA) ∧ w'.cell? ⟨B, 3, none⟩ = some (.slice aE s.editor.length cE)) ∧ B < w'.heap.size ∧ Kept w1' w') := fun w' h => ⟨⟨(HBK.out.kept h).cell 0 _ rfl, (HBK.out.kept h).cell 1 _ rfl, (HBK.out.kept h).cell 2 _ rfl, (HBK.out.kept h).cell 3 _ rfl⟩, (HBK.out.kept h).lt, h⟩
      have hKd : Kept w1' w1'.drew := kept_drewN w1' 1
      go_region_held3 (fun w' => (w'.cell? ⟨B, 0, none⟩ = some (.string (bs s.key)) ∧ w'.cell? ⟨B, 1, none⟩ = some (.string (bs s.type)) ∧ w'.cell? ⟨B, 2, none⟩ = some (.slice aA s.author.length cA) ∧ w'.cell? ⟨B, 3, none⟩ = some (.slice aE s.editor.length cE)) ∧ B < w'.heap.size ∧ Kept w1' w')
        ((refine HC.out _ ?_; first | assumption | exact Kept.refl _))
        (first
          | (go_at_call_of 34 (Value.string (bs [97, 117, 116, 104, 111, 114])); refine (HTA.out _ kE).mono ?_; rintro e w4 ⟨rfl, hk⟩; have kZ := Kept.trans kE hk; clear hk)
          | (go_at_call_of 34 (Value.string (bs [101, 100, 105, 116, 111, 114])); refine (HTE.out _ kA).mono ?_; rintro e w4 ⟨rfl, hk⟩; have kZ := Kept.trans kA hk; clear hk)
          | (go_at_call_of 34 (Value.string (bs [97, 117, 116, 104, 111, 114])); refine (HTA.out _ hKd).mono ?_; rintro e w3 ⟨rfl, hk⟩; have kA := Kept.trans hKd hk; clear hk)
          | (go_at_call_of 34 (Value.string (bs [101, 100, 105, 116, 111, 114])); refine (HTE.out _ hKd).mono ?_; rintro e w3 ⟨rfl, hk⟩; have kE := Kept.trans hKd hk; clear hk))
      all_goals
        have HK4 := Lib.hid (HK0.out.trans kZ)
        have HB4 := Lib.hid (HBK.out.kept kZ)
        have HF4 := Lib.hid (HPF.out _ HK4.out)
        clear kZ HC hKd HTA HTE k1 k2 k3 k4 k5 k6 k7
        try clear kA
        try clear kE
        have c4 : w4.cell? ⟨B, 4, none⟩ = some (.slice aF s.fields.length cF) := HB4.out.cell 4 _ rfl
        have z4 := HB4.out.lt
        go_wp2_with fail
        try simp only [mk_bs]
        generalize wr = wo at *
        go_loopw [5, 47] (fun o i wr => ∃ m : Nat, m ≤ s.fields.length ∧ i = .int .i64 m ∧ o = .string (bs (X7 ++ fldT (s.fields.take m))) ∧ Hid (Kept w4 wr)) (fun _ i _ => s.fields.length - (intOf i).toNat)
        case atStart => exact ⟨0, Nat.zero_le _, rfl, by simp [fldT, joinLn], Kept.refl _⟩
        case round =>
          obtain ⟨m, hm, rfl, rfl, HKM⟩ := hrel
          by_cases hmk : m < s.fields.length
          · obtain ⟨q, hq⟩ : ∃ q, s.fields[m]? = some q := ⟨_, List.getElem?_eq_getElem hmk⟩
            have HFN := Lib.hid (fldT_next s.fields m q hq)
            obtain ⟨a', c', hv', hc', h3⟩ := HF4.out.kept HKM.out
            obtain ⟨rfl, hdead, rfl⟩ := Value.slice.inj hv'
            clear hdead hc'
            obtain ⟨g2, o2, rfl, hg2, hcc2⟩ := h3 (by omega)
            obtain ⟨q0, q1⟩ := hcc2 m q hq
            obtain ⟨HQ1, HQ2⟩ := HSM.out.2.2.1 q (List.mem_of_getElem? hq)
            obtain ⟨qa, qb⟩ := q
            simp only at q0 q1 HFN HQ1 HQ2
            clear hcc2 h3 hv' hq c4
            have hl6 : (fldT (s.fields.take m)).length ≤ 2000000000000 := by have := HLA.out; have := HLA2.out m; omega
            have hl7 : qa.length ≤ 1100000 := HQ1
            have hl8 : qb.length ≤ 1100000 := HQ2
            have hl10 : X7.length ≤ 20000000000000 := HB7.out
            generalize fldT (s.fields.take m) = FM at *
            go_wp2_with fail
            go_roundw
            case rel => exact ⟨m + 1, by omega, by go_num, by rw [HFN.out]; simp, HKM.out.trans (kept_alloc _ _)⟩
            case measure => simp [intOf]; omega
          · obtain rfl : m = s.fields.length := by omega
            rw [List.take_length]
            have hl10 : X7.length ≤ 20000000000000 := HB7.out
            have hl11 : (fldT s.fields).length ≤ 2000000000000 := by have := HLA.out; omega
            clear c4
            go_wp2_with fail
            go_roundw
            case rel => exact ⟨n + 1, by omega, by go_num, by rw [HAT.out, HQ.out]; simp, HK4.out.trans HKM.out⟩
            case measure => simp [intOf]; omega
end Go.Proofs.YtgkgcheegaegnaaGreatDoor
