/- The law GlossOrder answers true of every input. Conditions: lengths that a machine can tell. -/
import Derived.Test.YthbnahagfojfbaaG38
import Derived.Test.YthbnahagfojfbaaG32
import Derived.Test.YthbnahagfojfbaaG02
import Derived.Test.YthbnahagfojfbaaG18
import Derived.Deep.DeepCutAuto

set_option linter.all false
namespace Go.Proofs.Ythbnahagfojfbaa
open Go.RowKit Go.Sort

def usM (ns : List Bs) : List Inl := ns.flatMap fun s => [inlU s, softI]
theorem usM_snoc (ns : List Bs) (n : Bs) : usM (ns ++ [n]) = usM ns ++ [inlU n, softI] := by unfold usM; rw [List.flatMap_append]; rfl
theorem usM_last (ns : List Bs) (z : Bs) : usM ns ++ [inlU z] = usL ns z := rfl
theorem usM_len (ns : List Bs) : (usM ns).length = 2 * ns.length := by
  unfold usM
  induction ns with
  | nil => rfl
  | cons s ns ih => rw [List.flatMap_cons, List.length_append, ih]; show 2 + 2 * ns.length = 2 * (ns.length + 1); omega
theorem tsI_snoc (ns : List Bs) (n : Bs) : tsI (ns ++ [n]) = tsI ns ++ [(n, 105 :: n)] := by unfold tsI; rw [List.map_append]; rfl
def LordP (w : World) (e : Ending) (w' : World) : Prop := e = .returned (.bool true) ∧ Kept w w'
set_option maxRecDepth 100000 in
set_option maxHeartbeats 25600000 in
theorem lgorder_any (vL vR vO : Value) (ls : List Bs) (c : ColT) (w : World) (hv : Bytss w vL ls) (hll : ∀ l ∈ ls, l.length ≤ 140737488355328) (hcol : Col w vR vO c) (hf : FitC c) : Calls Try.prog 3 #[vL, colV vR vO c.ignore] w (LordP w) := by
  have HV := Lib.hid hv
  have HLL := Lib.hid hll
  have HCOL := Lib.hid hcol
  have HFT := Lib.hid hf
  obtain ⟨aL, cL, rfl, lL⟩ := (show RowR (fun _ => True) 1 (BytK w) w vL ls from hv).form
  obtain ⟨aR, cR, rfl, lR⟩ := hcol.1.form
  obtain ⟨aO, cO, rfl, lO⟩ := hcol.2.form
  have hb0 := Blk.new w 26 #[.slice aR c.ranks.length cR, .slice aO c.order.length cO, .string (bs c.ignore)]
  have hk0 := kept_alloc w (.cells #[.slice aR c.ranks.length cR, .slice aO c.order.length cO, .string (bs c.ignore)] 26)
  have HSH := Lib.hid (fun w h => short_any (.slice aR c.ranks.length cR) (.slice aO c.order.length cO) c w h hf)
  have HFIN : Hid (∀ w', Kept w w' → LordP w (.returned (.bool true)) w') := fun w' k => ⟨rfl, k⟩
  generalize hP : LordP w = PQ at *
  obtain ⟨B, HB⟩ : ∃ b, Hid (w.heap.size = b) := ⟨_, rfl⟩
  rw [HB.out] at hb0
  have HB0 := Lib.hid hb0
  have HK0 := Lib.hid hk0
  clear hv hll hcol hf hb0 hk0 hP
  by_cases h12 : 12 < ls.length
  · go_enter Try.func3, Try.ntmps3
    go_wp2_with fail
    refine (awake27_any _).mono ?_
    rintro e w1 ⟨rfl, hk⟩
    have HK := Lib.hid (HK0.out.trans hk)
    clear hk
    go_wp2_with fail
    (try go_ret)
    exact HFIN.out _ HK.out
  go_enter Try.func3, Try.ntmps3
  go_wp2_with fail
  rw [HB.out]
  generalize w.alloc _ = w1 at *
  refine (HSH.out w1 (HCOL.out.kept HK0.out)).mono ?_
  rintro e w2 ⟨⟨b, rfl, hsc⟩, hk2⟩
  have HK2 := Lib.hid (HK0.out.trans hk2)
  have HB2 := Lib.hid (HB0.out.kept hk2)
  have HSC := Lib.hid hsc
  clear hk2 hsc HK0 HB0 HSH HFT
  cases b with
  | false =>
    go_wp2_with fail
    refine (awake27_any w2).mono ?_
    rintro e w3 ⟨rfl, hk⟩
    have HK := Lib.hid (HK2.out.trans hk)
    clear hk
    go_wp2_with fail
    (try go_ret)
    exact HFIN.out _ HK.out
  | true =>
    have hsc := HSC.out rfl
    have HSM := Lib.hid hsc
    clear hsc HSC
    have HCMP := Lib.hid (fun a b w h (ha : a.length ≤ 1000) (hb : b.length ≤ 1000) => rcompare_any (.slice aR c.ranks.length cR) (.slice aO c.order.length cO) c a b w h HSM.out ha hb)
    have hB2 : B < w2.heap.size := HB2.out.lt
    have HTS := Lib.hid (fun k => (List.length_take (i := k) (l := wordsL ls)))
    have HWL : Hid ((wordsL ls).length = ls.length) := List.length_map _
    obtain ⟨ws, HWW⟩ : ∃ ws, Hid (wordsL ls = ws) := ⟨_, rfl⟩
    rw [HWW.out] at HTS HWL
    have HWA : Hid (∀ (k : Nat) (l : Bs), ls[k]? = some l → ws[k]? = some (wordL l)) := fun k l h => by rw [← HWW.out]; unfold wordsL; rw [List.getElem?_map, h]; rfl
    have HWN : Hid (∀ n ∈ ws, n ≠ [] ∧ n.length ≤ 800) := fun n hn => by
      rw [← HWW.out] at hn
      obtain ⟨l, _, rfl⟩ := List.mem_map.1 hn
      exact ⟨wordL_ne l, by have := wordL_len l; omega⟩
    obtain ⟨i0, hi, hz0, hz1, hz2⟩ := info_parts Try.infoBl
    obtain ⟨i1, hi', hz0', hz1', hz2'⟩ := info_parts Try.infoIn
    go_wp2_with fail
    go_loopw [5, 6, 7, 8] (fun t b u i wr => ∃ (k : Nat) (vT vB vU : Value), k ≤ ls.length ∧ vT = t ∧ vB = b ∧ vU = u ∧ i = .int .i64 k ∧ Hid (Rel3 B wr vT vB vU (tsI (ws.take k)) (usM (ws.take k))) ∧ Hid ((ws.take k).Nodup) ∧ Hid (Blk wr B 26 #[.slice aR c.ranks.length cR, .slice aO c.order.length cO, .string (bs c.ignore)]) ∧ Hid (Kept w wr)) (fun _ _ _ i _ => ls.length - (intOf i).toNat)
    case atStart => exact ⟨0, _, _, _, Nat.zero_le _, rfl, rfl, rfl, rfl, ⟨OutG.nil _ _ _ _ _ _, OutG.nil _ _ _ _ _ _, OutG.nil _ _ _ _ _ _, (fun g q => by cases q), (fun g q => by cases q), (fun g q => by cases q), .inl ⟨rfl, rfl⟩⟩, List.nodup_nil, HB2.out, HK2.out⟩
    case round =>
      clear HB2 HK2 hB2
      obtain ⟨k, vT, vB, vU, hk, rfl, rfl, rfl, rfl, HR3, HND, HBR, HKR⟩ := hrel
      by_cases hlt : k < ls.length
      · obtain ⟨x, hx⟩ : ∃ x, ls[k]? = some x := ⟨_, List.getElem?_eq_getElem hlt⟩
        have HWX := Lib.hid (HWA.out k x hx)
        have hxl := HLL.out x (List.mem_of_getElem? hx)
        go_wp2_with fail
        obtain ⟨wo, hwo⟩ : ∃ wo : World, wo = wr := ⟨_, rfl⟩
        rw [← hwo] at HR3 HBR HKR
        rw [← hwo]
        go_loopw [9] (fun j wr => ∃ (m : Nat), m ≤ k ∧ j = .int .i64 m ∧ Hid (∀ y ∈ ws.take m, y ≠ wordL x) ∧ Hid (Kept wo wr)) (fun j _ => k - (intOf j).toNat)
        case atStart => exact ⟨0, Nat.zero_le _, rfl, (fun y h => by simp at h), Kept.refl _⟩
        case round =>
          clear hwo
          obtain ⟨m, hm, rfl, HNE, HKJ⟩ := hrel
          have HKW := Lib.hid (HKR.out.trans HKJ.out)
          have HBJ := Lib.hid (HBR.out.kept HKJ.out)
          have hvr := HV.out.kept HKW.out
          obtain ⟨g, o, csx, hax, hg, -, hcx, hcellx, ⟨ux, rfl, hux⟩, -, -⟩ := RowR.at_ (show RowR (fun _ => True) 1 (BytK wr) wr _ _ from hvr) k x hx
          subst hax
          have cx := hcellx 0 _ rfl
          rw [Nat.mul_one, Nat.add_zero] at cx
          obtain ⟨ax, cpx, rfl, -, -⟩ := id hux
          have HUX := Lib.hid hux
          have HWX1 := Lib.hid (fun w' (h : Kept wr w') => word_any (.slice ax x.length cpx) x w' (HUX.out.kept h) hxl)
          obtain ⟨W1, HW1⟩ : ∃ z, Hid (wordL x = z) := ⟨_, rfl⟩
          have hW1 : W1.length ≤ 1000 := by rw [← HW1.out]; have := wordL_len x; omega
          rw [HW1.out] at HWX1 HNE HWX
          have b0 : wr.cell? ⟨B, 0, none⟩ = some (.slice aR c.ranks.length cR) := HBJ.out.cell 0 _ rfl
          have b1 : wr.cell? ⟨B, 1, none⟩ = some (.slice aO c.order.length cO) := HBJ.out.cell 1 _ rfl
          have b2 : wr.cell? ⟨B, 2, none⟩ = some (.string (bs c.ignore)) := HBJ.out.cell 2 _ rfl
          have zB := HBJ.out.lt
          have q3 : (0 : Int) ≤ (k : Int) := by omega
          have q4 : (k : Int) < (ls.length : Int) := by omega
          by_cases hjl : m < k
          · obtain ⟨y, hy⟩ : ∃ y, ls[m]? = some y := ⟨_, List.getElem?_eq_getElem (by omega)⟩
            have hyl := HLL.out y (List.mem_of_getElem? hy)
            have HWY := Lib.hid (HWA.out m y hy)
            obtain ⟨g', o', csy, hay, hg', -, hcy, hcelly, ⟨uy, rfl, huy⟩, -, -⟩ := RowR.at_ (show RowR (fun _ => True) 1 (BytK wr) wr _ _ from hvr) m y hy
            cases hay
            have cy := hcelly 0 _ rfl
            rw [Nat.mul_one, Nat.add_zero] at cy
            obtain ⟨ay, cpy, rfl, -, -⟩ := id huy
            have HUY := Lib.hid huy
            have HWY1 := Lib.hid (fun w' (h : Kept wr w') => word_any (.slice ay y.length cpy) y w' (HUY.out.kept h) hyl)
            have HCC : Hid (∀ w', Kept wr w' → ((w'.cell? ⟨B, 0, none⟩ = some (.slice aR c.ranks.length cR) ∧ w'.cell? ⟨B, 1, none⟩ = some (.slice aO c.order.length cO) ∧ w'.cell? ⟨B, 2, none⟩ = some (.string (bs c.ignore))) ∧ w'.cell? ⟨g, o + k, none⟩ = some (.slice ax x.length cpx) ∧ w'.cell? ⟨g, o + m, none⟩ = some (.slice ay y.length cpy)) ∧ (B < w'.heap.size ∧ g < w'.heap.size) ∧ Kept wr w') := fun w' h => ⟨⟨⟨(h.cell (p := ⟨B, 0, none⟩) zB).trans b0, (h.cell (p := ⟨B, 1, none⟩) zB).trans b1, (h.cell (p := ⟨B, 2, none⟩) zB).trans b2⟩, (h.cell (p := ⟨g, o + k, none⟩) hg).trans cx, (h.cell (p := ⟨g, o + m, none⟩) hg).trans cy⟩, ⟨Nat.lt_of_lt_of_le zB h.size, Nat.lt_of_lt_of_le hg h.size⟩, h⟩
            have hkd : Kept wr wr.drew := kept_drewN wr 1
            have q1 : (0 : Int) ≤ (m : Int) := by omega
            have q2 : (m : Int) < (ls.length : Int) := by omega
            obtain ⟨W2, HW2⟩ : ∃ z, Hid (wordL y = z) := ⟨_, rfl⟩
            have hW2 : W2.length ≤ 1000 := by rw [← HW2.out]; have := wordL_len y; omega
            rw [HW2.out] at HWY1 HWY
            have HCM := Lib.hid (fun w' (h : Kept wr w') => HCMP.out W2 W1 w' (HCOL.out.kept (HKW.out.trans h)) hW2 hW1)
            obtain ⟨R, HR⟩ : ∃ z, Hid (cmpC c W2 W1 = z) := ⟨_, rfl⟩
            rw [HR.out] at HCM
            obtain ⟨b, HBB⟩ : ∃ b, Hid (decide (R = 0) = b) := ⟨_, Lib.hid rfl⟩
            have hb1 : (R == 0) = b := by rw [← HBB.out, Bool.eq_iff_iff]; simp
            have hb2 : decide (R = 0) = b := HBB.out
            clear hvr hcellx hcelly hux huy hx hy hcx hcy b0 b1 b2
            go_wp2_with fail
            go_region_held3 (fun w' => ((w'.cell? ⟨B, 0, none⟩ = some (.slice aR c.ranks.length cR) ∧ w'.cell? ⟨B, 1, none⟩ = some (.slice aO c.order.length cO) ∧ w'.cell? ⟨B, 2, none⟩ = some (.string (bs c.ignore))) ∧ w'.cell? ⟨g, o + k, none⟩ = some (.slice ax x.length cpx) ∧ w'.cell? ⟨g, o + m, none⟩ = some (.slice ay y.length cpy)) ∧ (B < w'.heap.size ∧ g < w'.heap.size) ∧ Kept wr w')
              ((refine HCC.out _ ?_; assumption))
              (first
                | (go_at_call 7; refine (HCM.out _ kB).mono ?_; rintro e w8 ⟨rfl, hk8⟩; have kC : Kept wr w8 := kB.trans hk8; clear hk8)
                | (go_at_call_of 8 ax; have := kA; refine (HWX1.out _ (by assumption)).mono ?_; rintro e w7 ⟨rfl, hk7⟩; have kB : Kept wr w7 := Kept.trans (by assumption) hk7; clear hk7)
                | (go_at_call_of 8 ay; refine (HWY1.out _ (by assumption)).mono ?_; rintro e w6 ⟨rfl, hk6⟩; have kA : Kept wr w6 := Kept.trans (by assumption) hk6; clear hk6))
            all_goals
              have HKC := Lib.hid kC
              clear HCC HCM cx cy hkd kA kB kC
              cases b with
              | true =>
                go_wp2_with fail
                refine (awake27_any w8).mono ?_
                rintro e w9 ⟨rfl, hk9⟩
                have HKZ := Lib.hid ((HKW.out.trans HKC.out).trans hk9)
                clear hk9
                go_wp2_with fail
                (try go_ret)
                exact HFIN.out _ HKZ.out
              | false =>
                have HNE2 : Hid (∀ z ∈ ws.take (m + 1), z ≠ W1) := fun z hz => by
                  rw [take_snoc HWY.out] at hz
                  rcases List.mem_append.1 hz with q | q
                  · exact HNE.out z q
                  · rw [List.mem_singleton] at q
                    have := of_decide_eq_false HBB.out
                    rw [← HR.out, cmpC_zero] at this
                    rw [q]; exact this
                have HKM := Lib.hid (HKJ.out.trans HKC.out)
                clear HNE HBB hb1 hb2 HKJ HKW HBJ
                go_wp2_with fail
                go_roundw
                case rel => exact ⟨m + 1, by omega, by go_num, by rw [HW1.out]; exact HNE2.out, HKM.out⟩
                case measure => simp [intOf]; omega
          · obtain rfl : m = k := by omega
            have HND2 : Hid ((ws.take (m + 1)).Nodup) := by
              show (ws.take (m + 1)).Nodup
              rw [take_snoc HWX.out]
              exact nodup_snoc HND.out (fun q => HNE.out _ q rfl)
            have HTI : Hid (tsI (ws.take (m + 1)) = tsI (ws.take m) ++ [(W1, 105 :: W1)]) := by show _ = _; rw [take_snoc HWX.out, tsI_snoc]
            have HUM : Hid (usM (ws.take (m + 1)) = usM (ws.take m) ++ [inlU W1, softI]) := by show _ = _; rw [take_snoc HWX.out, usM_snoc]
            have HLT : Hid ((tsI (ws.take m)).length ≤ 12 ∧ (usM (ws.take m)).length ≤ 24) := by
              have := HTS.out m
              refine ⟨?_, ?_⟩
              · rw [tsI_len, this]; omega
              · rw [usM_len, this]; omega
            obtain ⟨ts, HZT⟩ : ∃ z, Hid (tsI (ws.take m) = z) := ⟨_, rfl⟩
            obtain ⟨us, HZU⟩ : ∃ z, Hid (usM (ws.take m) = z) := ⟨_, rfl⟩
            rw [HZT.out] at HR3 HTI HLT
            rw [HZU.out] at HR3 HUM HLT
            have HRJ := Lib.hid (HR3.out.kept HKJ.out)
            obtain ⟨nm, HNM⟩ : ∃ z, Hid (W1 = z) := ⟨_, rfl⟩
            rw [HNM.out] at HWX1 HTI HUM hW1
            have HCC : Hid (∀ w', Kept wr w' → ((w'.cell? ⟨B, 0, none⟩ = some (.slice aR c.ranks.length cR) ∧ w'.cell? ⟨B, 1, none⟩ = some (.slice aO c.order.length cO) ∧ w'.cell? ⟨B, 2, none⟩ = some (.string (bs c.ignore))) ∧ w'.cell? ⟨g, o + m, none⟩ = some (.slice ax x.length cpx)) ∧ (B < w'.heap.size ∧ g < w'.heap.size) ∧ Kept wr w') := fun w' h => ⟨⟨⟨(h.cell (p := ⟨B, 0, none⟩) zB).trans b0, (h.cell (p := ⟨B, 1, none⟩) zB).trans b1, (h.cell (p := ⟨B, 2, none⟩) zB).trans b2⟩, (h.cell (p := ⟨g, o + m, none⟩) hg).trans cx⟩, ⟨Nat.lt_of_lt_of_le zB h.size, Nat.lt_of_lt_of_le hg h.size⟩, h⟩
            have kd : Kept wr wr.drew := kept_drewN wr 1
            have HBZ : Hid (B + 1 ≤ wr.heap.size) := HBJ.out.lt
            obtain ⟨hadd, -⟩ := add_bsG (P := Try.prog) [105] nm (105 :: nm) 1 1000 rfl (by simp) hW1 (by omega)
            obtain ⟨g0, o0, csw, hax0, hg0, -, hcw, hcellw, ⟨uw, hcsw, huw⟩, -, -⟩ := RowR.at_ (show RowR (fun _ => True) 1 (BytK w) w _ _ from HV.out) m x hx
            cases hax0
            subst hcsw
            have cw := hcellw 0 _ rfl
            rw [Nat.mul_one, Nat.add_zero] at cw
            have hue : uw = .slice ax x.length cpx := by
              have h1 := (HKW.out.cell (p := ⟨g, o + m, none⟩) hg0).trans cw
              rw [cx] at h1
              exact (Option.some.inj h1).symm
            subst hue
            have HGW := Lib.hid hg0
            have HCW := Lib.hid cw
            have HWW := Lib.hid (fun w' (h : Kept w w') => word_any (.slice ax x.length cpx) x w' (huw.kept h) hxl)
            rw [HW1.out, HNM.out] at HWW
            clear hvr hcellx hux hx hcx huw hcellw cw hcw hg0 HNE HND HR3 HBR HKR b0 b1 b2
            go_upto_region 13 with fail
            go_cut [10] from 30 to 84 (fun v10 wx => ∃ TB P : Nat, v10 = .pointer (some ⟨TB, 0, none⟩) ∧ Hid (Blk wx TB 37 (tmC P nm)) ∧ Hid (Blk wx P 60 #[.string (bs kName), .string (bs nm)]) ∧ Hid (wr.heap.size ≤ P) ∧ Hid (wr.heap.size ≤ TB) ∧ Hid (Kept wr wx))
            case first =>
              rename_i J' K' hRJ hMK
              refine reg13 (.slice ax x.length cpx) g o ls.length cL m nm (by kernel_rfl) ⟨_, rfl, rfl, rfl, rfl⟩ ⟨_, rfl, rfl, rfl, rfl⟩ ⟨_, rfl, rfl, rfl, rfl⟩ ⟨_, rfl, rfl, rfl, rfl⟩ ⟨_, rfl, rfl, rfl, rfl⟩ ⟨_, rfl, rfl, rfl, rfl⟩ ⟨_, rfl, rfl, rfl, rfl⟩ ⟨_, rfl, rfl, rfl, rfl⟩ ⟨_, rfl, rfl, rfl, rfl⟩ ⟨_, rfl, rfl, rfl, rfl⟩ ⟨_, rfl, rfl, rfl, rfl⟩ ⟨_, rfl, rfl, rfl, rfl⟩ ⟨_, rfl, rfl, rfl, rfl⟩ ⟨_, rfl, rfl, rfl, rfl⟩ (by simp) rfl rfl (by omega) (by omega) hg cx HWX1 (by omega) ?_
              intro V w5 TB P h1 h2 h3 h4 h5 h6
              simp only [Act.put, List.setIfInBounds_toArray, List.set_cons_zero, List.set_cons_succ]
              refine hMK _ _ (Met.intro (hRJ _ _ ?_))
              (repeat apply Exists.intro)
              refine ⟨?rel, rfl⟩
              exact ⟨TB, P, h1, h2, h3, h4, h5, h6⟩
            case rest =>
              obtain ⟨TB, P, rfl, HTB, HPB, HLP, HLTB, HKX⟩ := hcut
              obtain ⟨xt, HXT⟩ : ∃ z, Hid (ts.map bT = z) := ⟨_, rfl⟩
              obtain ⟨xb, HXB⟩ : ∃ z, Hid (ts.reverse.map bT = z) := ⟨_, rfl⟩
              have HRX : Hid (R3 B wr vT vB vU xt xb us) := by have := HRJ.out.r3; rw [HXT.out, HXB.out] at this; exact this
              have HR4 : Hid (R3 B wc vT vB vU xt xb us) := HRX.out.kept HKX.out
              have HLX : Hid (xt.length ≤ 12 ∧ xb.length ≤ 12 ∧ us.length ≤ 24) := by
                show _ ∧ _ ∧ _
                rw [← HXT.out, ← HXB.out, List.length_map, List.length_map, List.length_reverse]; exact ⟨HLT.out.1, HLT.out.1, HLT.out.2⟩
              have hBwc : B < wc.heap.size := Nat.lt_of_lt_of_le zB HKX.out.size
              have HBC : Hid (B < P ∧ B < TB) := ⟨Nat.lt_of_lt_of_le zB HLP.out, Nat.lt_of_lt_of_le zB HLTB.out⟩
              have HY1 : Hid (BloK 2 0 (fun i => (B < i ∧ vB.ownBlock ≠ some i ∧ vU.ownBlock ≠ some i) ∧ vT.ownBlock ≠ some i) (wc.alloc (.cells (tmC P nm) 37)) (tmC P nm).toList (bT (nm, 105 :: nm))) := term_bT ⟨⟨HBC.out.1, HRX.out.size_B HLP.out, HRX.out.size_U HLP.out⟩, HRX.out.size_T HLP.out⟩ (HPB.out.kept (kept_alloc _ _))
              have HG1 := Lib.hid (Blk.new wc 37 (tmC P nm))
              have t0 : wc.cell? ⟨TB, 0, none⟩ = some (.int .i64 13) := HTB.out.cell 0 _ rfl
              have t1 : wc.cell? ⟨TB, 1, none⟩ = some (.int .i64 0) := HTB.out.cell 1 _ rfl
              have t2 : wc.cell? ⟨TB, 2, none⟩ = some (.string (bs kTerm)) := HTB.out.cell 2 _ rfl
              have t3 : wc.cell? ⟨TB, 3, none⟩ = some (.string (bs [])) := HTB.out.cell 3 _ rfl
              have t4 : wc.cell? ⟨TB, 4, none⟩ = some (.string (bs [])) := HTB.out.cell 4 _ rfl
              have t5 : wc.cell? ⟨TB, 5, none⟩ = some (.string (bs [])) := HTB.out.cell 5 _ rfl
              have t6 : wc.cell? ⟨TB, 6, none⟩ = some (.string (bs (105 :: nm))) := HTB.out.cell 6 _ rfl
              have t7 : wc.cell? ⟨TB, 7, none⟩ = some (.slice none 0 0) := HTB.out.cell 7 _ rfl
              have t8 : wc.cell? ⟨TB, 8, none⟩ = some (.slice (some ⟨P, 0, none⟩) 1 1) := HTB.out.cell 8 _ rfl
              have t9 : wc.cell? ⟨TB, 9, none⟩ = some (.slice none 0 0) := HTB.out.cell 9 _ rfl
              have t10 : wc.cell? ⟨TB, 10, none⟩ = some (.slice none 0 0) := HTB.out.cell 10 _ rfl
              have zTB := HTB.out.lt
              clear hadd HCC kd cx
              go_wp2_with (first
                | (refine wpList_append_fore rfl (.tmp 67) (.tmp 69) rfl wc.heap.size (by rfl) (by rfl) HR4.out (kept_alloc wc (.cells (tmC P nm) 37)) hBwc (tmC P nm).toList HG1.out rfl (bT (nm, 105 :: nm)) HY1.out (by have := HLX.out; omega) ?_; intro g7 c7 w7 hr7 hg7 hat7; have HR7 := Lib.hid hr7; have HG7 := Lib.hid hg7; have HAT7 := Lib.hid hat7; clear hr7 hg7 hat7; have HTB7 : Hid (Blk w7 TB 37 (tmC P nm)) := (HTB.out.kept (kept_alloc _ _)).onl (Only.grown HG7.out) (fun e => HRX.out.size_T HLTB.out e.symm); have HPB7 : Hid (Blk w7 P 60 #[.string (bs kName), .string (bs nm)]) := (HPB.out.kept (kept_alloc _ _)).onl (Only.grown HG7.out) (fun e => HRX.out.size_T HLP.out e.symm); clear t0 t1 t2 t3 t4 t5 t6 t7 t8 t9 t10 zTB; have t0 : w7.cell? ⟨TB, 0, none⟩ = some (.int .i64 13) := HTB7.out.cell 0 _ rfl; have t1 : w7.cell? ⟨TB, 1, none⟩ = some (.int .i64 0) := HTB7.out.cell 1 _ rfl; have t2 : w7.cell? ⟨TB, 2, none⟩ = some (.string (bs kTerm)) := HTB7.out.cell 2 _ rfl; have t3 : w7.cell? ⟨TB, 3, none⟩ = some (.string (bs [])) := HTB7.out.cell 3 _ rfl; have t4 : w7.cell? ⟨TB, 4, none⟩ = some (.string (bs [])) := HTB7.out.cell 4 _ rfl; have t5 : w7.cell? ⟨TB, 5, none⟩ = some (.string (bs [])) := HTB7.out.cell 5 _ rfl; have t6 : w7.cell? ⟨TB, 6, none⟩ = some (.string (bs (105 :: nm))) := HTB7.out.cell 6 _ rfl; have t7 : w7.cell? ⟨TB, 7, none⟩ = some (.slice none 0 0) := HTB7.out.cell 7 _ rfl; have t8 : w7.cell? ⟨TB, 8, none⟩ = some (.slice (some ⟨P, 0, none⟩) 1 1) := HTB7.out.cell 8 _ rfl; have t9 : w7.cell? ⟨TB, 9, none⟩ = some (.slice none 0 0) := HTB7.out.cell 9 _ rfl; have t10 : w7.cell? ⟨TB, 10, none⟩ = some (.slice none 0 0) := HTB7.out.cell 10 _ rfl; have zTB := HTB7.out.lt;
                    have HPG : Hid (P ≠ g7 ∧ B < w7.heap.size) := (by
                      have h1 := HPB.out.lt
                      refine ⟨fun e => ?_, Nat.lt_of_lt_of_le hBwc (Nat.le_trans (kept_alloc wc (.cells (tmC P nm) 37)).size (Only.grown HG7.out).size)⟩
                      rcases HAT7.out with q | q
                      · exact HRX.out.size_T HLP.out (by rw [e]; exact q)
                      · exact Nat.lt_irrefl _ (Nat.lt_of_lt_of_le (Nat.lt_of_lt_of_le h1 (kept_alloc wc (.cells (tmC P nm) 37)).size) (Nat.le_of_eq (q.symm.trans e.symm))));
                    have HG8 := Lib.hid (Blk.new w7 37 (tmC P nm));
                    have HY8 : Hid (BloK 2 0 (fun i => (B < i ∧ (Value.slice (some ⟨g7, 0, none⟩) (xt.length + 1) c7).ownBlock ≠ some i ∧ vU.ownBlock ≠ some i) ∧ w7.heap.size ≠ i) (w7.alloc (.cells (tmC P nm) 37)) (tmC P nm).toList (bT (nm, 105 :: nm))) := term_bT ⟨⟨HBC.out.1, fun e => HPG.out.1 (own_some _ _ _ _ e).symm, HRX.out.size_U HLP.out⟩, fun e => by have := HPB7.out.lt; omega⟩ (HPB7.out.kept (kept_alloc _ _)))
                | (refine wpList_append_back rfl (.tmp 72) (.tmp 73) rfl w7.heap.size (by rfl) (by rfl) HR7.out (kept_alloc w7 (.cells (tmC P nm) 37)) (Nat.le_refl _) HPG.out.2 (tmC P nm).toList HG8.out rfl (bT (nm, 105 :: nm)) HY8.out (by have := HLX.out; omega) ?_; intro g8 c8 w8 hr8 hk8 _; have HR8 := Lib.hid hr8; have HK8 := Lib.hid hk8; clear hr8 hk8 t0 t1 t2 t3 t4 t5 t6 t7 t8 t9 t10 zTB;
                    have HOW : Hid (Only (fun i => B < i) wc w8) := ((Only.of_kept (kept_alloc _ _)).trans ((Only.grown HG7.out).mono (fun i _ e => (HR4.out.T.blk i e.symm).1))).trans (Only.of_kept HK8.out);
                    have hg8 : g < w8.heap.size := Nat.lt_of_lt_of_le (Nat.lt_of_lt_of_le hg HKX.out.size) HOW.out.size;
                    have hgB : g < B := (by rw [← HB.out]; exact HGW.out);
                    have cx : w8.cell? ⟨g, o + m, none⟩ = some (.slice ax x.length cpx) := (by
                      rw [HOW.out.cell g _ (Nat.lt_of_lt_of_le hg HKX.out.size) (Nat.not_lt.2 (Nat.le_of_lt hgB)), (HKW.out.trans HKX.out).cell (p := ⟨g, o + m, none⟩) HGW.out]; exact HCW.out);
                    have HKC8 : Hid (Kept w w8) := (HKW.out.trans HKX.out).trans' (HOW.out.below (HKW.out.trans HKX.out).size (fun i q => by rw [HB.out]; exact Nat.le_of_lt q));
                    have HBQ8 : Hid (Blk w8 B 26 #[.slice aR c.ranks.length cR, .slice aO c.order.length cO, .string (bs c.ignore)]) := (HBJ.out.kept HKX.out).onl HOW.out (Nat.lt_irrefl B))
                | fail)
              refine (HWW.out _ HKC8.out).mono ?_
              rintro e w9 ⟨rfl, hk9⟩
              have HR9 := Lib.hid (HR8.out.kept hk9)
              have HK9 := Lib.hid hk9
              clear hk9 cx
              go_wp2_with fail
              refine (use_any nm w9).mono ?_
              rintro e w10 ⟨C', K', rfl, hC, hK, b4, b5, k10⟩
              have HR10 := Lib.hid (HR9.out.kept k10)
              have HBK : Hid (Kept w8 w10) := HK9.out.trans k10
              have hB9 : B < w10.heap.size := Nat.lt_of_lt_of_le HBQ8.out.lt HBK.out.size
              have hB0 : B < w9.heap.size := Nat.lt_of_lt_of_le HBQ8.out.lt HK9.out.size
              have hz8 : C' < w10.heap.size := b4.lt
              have hz9 : K' < w10.heap.size := b5.lt
              obtain ⟨css, HCSS⟩ : ∃ z : List (List Value), Hid ([[.int .i64 11, .string (bs []), .string (bs []), .string (bs []), .string (bs []), .slice (some ⟨C', 0, none⟩) 1 1, .slice none 0 0, .slice none 0 0, .slice none 0 0, .slice (some ⟨K', 0, none⟩) 1 1], [.int .i64 2, .string (bs []), .string (bs []), .string (bs []), .string (bs []), .slice none 0 0, .slice none 0 0, .slice none 0 0, .slice none 0 0, .slice none 0 0]] = z) := ⟨_, rfl⟩
              have HG10 : Hid (Blk (w10.alloc (.cells #[.int .i64 11, .string (bs []), .string (bs []), .string (bs []), .string (bs []), .slice (some ⟨C', 0, none⟩) 1 1, .slice none 0 0, .slice none 0 0, .slice none 0 0, .slice (some ⟨K', 0, none⟩) 1 1, .int .i64 2, .string (bs []), .string (bs []), .string (bs []), .string (bs []), .slice none 0 0, .slice none 0 0, .slice none 0 0, .slice none 0 0, .slice none 0 0] 41)) w10.heap.size 41 css.flatten.toArray) := by
                rw [← HCSS.out]; exact Blk.new w10 41 _
              have HY10 : Hid (∀ (j : Nat) (cs : List Value) (y : Inl), css[j]? = some cs → [inlU nm, softI][j]? = some y → InlK 1 (fun i => B < i ∧ (Value.slice (some ⟨g7, 0, none⟩) (xt.length + 1) c7).ownBlock ≠ some i ∧ (Value.slice (some ⟨g8, 0, none⟩) (1 + xb.length) c8).ownBlock ≠ some i ∧ vU.ownBlock ≠ some i ∧ w10.heap.size ≠ i) (w10.alloc (.cells #[.int .i64 11, .string (bs []), .string (bs []), .string (bs []), .string (bs []), .slice (some ⟨C', 0, none⟩) 1 1, .slice none 0 0, .slice none 0 0, .slice none 0 0, .slice (some ⟨K', 0, none⟩) 1 1, .int .i64 2, .string (bs []), .string (bs []), .string (bs []), .string (bs []), .slice none 0 0, .slice none 0 0, .slice none 0 0, .slice none 0 0, .slice none 0 0] 41)) cs y) := by
                intro j cs y h1 h2
                rw [← HCSS.out] at h1
                cases j with
                | zero =>
                  cases h1; cases h2
                  exact use_inl (n := 0) ⟨by omega, HR9.out.size_T hC, HR9.out.size_B hC, HR9.out.size_U hC, by omega⟩ ⟨by omega, HR9.out.size_T hK, HR9.out.size_B hK, HR9.out.size_U hK, by omega⟩ (b4.kept (kept_alloc _ _)) (b5.kept (kept_alloc _ _))
                | succ j =>
                  cases j with
                  | zero =>
                    cases h1; cases h2
                    exact ⟨_, _, _, _, _, rfl, ⟨Strs.none_ _, InB.nil _ _⟩, ⟨Prs.none_ _, InB.nil _ _⟩, ⟨Strs.none_ _, InB.nil _ _⟩, RowR.none_ _ _ _ _, Lns.none_ _ _ _⟩
                  | succ j => simp at h2
              have HCL : Hid ((∀ cs ∈ css, cs.length = 10) ∧ css.length = 2) := by
                rw [← HCSS.out]; exact ⟨fun cs h => by simp at h; rcases h with rfl | rfl <;> rfl, rfl⟩
              clear hC hK b4 b5 k10
              unfold useV
              go_wp2_with (first
                | (refine wpList_append_two rfl (.tmp 75) (.tmp 83) rfl w10.heap.size 2 (by rfl) (by rfl) HR10.out (kept_alloc w10 (.cells #[.int .i64 11, .string (bs []), .string (bs []), .string (bs []), .string (bs []), .slice (some ⟨C', 0, none⟩) 1 1, .slice none 0 0, .slice none 0 0, .slice none 0 0, .slice (some ⟨K', 0, none⟩) 1 1, .int .i64 2, .string (bs []), .string (bs []), .string (bs []), .string (bs []), .slice none 0 0, .slice none 0 0, .slice none 0 0, .slice none 0 0, .slice none 0 0] 41)) hB9 (Nat.le_refl _) css [inlU nm, softI] rfl HG10.out HCL.out.1 HCL.out.2 (by omega) (by omega) HY10.out (by have := HLX.out; omega) ?_; intro g11 c11 w11 hr11 hg11; have HR11 := Lib.hid hr11; have HG11 := Lib.hid hg11; clear hr11 hg11)
                | fail)
              have HOW2 : Hid (Only (fun i => B < i) w10 w11) := (Only.of_kept (kept_alloc _ _)).trans ((Only.grown HG11.out).mono (fun i _ e => (HR10.out.U.blk i e.symm).1))
              have HK11 : Hid (Kept w w11) := (HKC8.out.trans HBK.out).trans' (HOW2.out.below (HKC8.out.trans HBK.out).size (fun i q => by rw [HB.out]; exact Nat.le_of_lt q))
              have HB11 : Hid (Blk w11 B 26 #[.slice aR c.ranks.length cR, .slice aO c.order.length cO, .string (bs c.ignore)]) := (HBQ8.out.kept HBK.out).onl HOW2.out (Nat.lt_irrefl B)
              have HFR : Hid (Rel3 B w11 (.slice (some ⟨g7, 0, none⟩) (xt.length + 1) c7) (.slice (some ⟨g8, 0, none⟩) (1 + xb.length) c8) (.slice (some ⟨g11, 0, none⟩) (us.length + 2) c11) (tsI (ws.take (m + 1))) (usM (ws.take (m + 1)))) := by
                show Rel3 _ _ _ _ _ _ _
                have e1 : (ts ++ [(nm, 105 :: nm)]).map bT = xt ++ [bT (nm, 105 :: nm)] := by rw [List.map_append, HXT.out]; rfl
                have e2 : (ts ++ [(nm, 105 :: nm)]).reverse.map bT = bT (nm, 105 :: nm) :: xb := by rw [List.reverse_append]; show bT (nm, 105 :: nm) :: (ts.reverse.map bT) = _; rw [HXB.out]
                rw [HTI.out, HUM.out]
                refine Rel3.of ?_ (by simp)
                rw [e1, e2]; exact HR11.out
              go_roundw
              case rel => exact ⟨m + 1, _, _, _, by omega, rfl, rfl, rfl, by go_num, HFR.out, HND2.out, HB11.out, HK11.out⟩
              case measure => simp [intOf]; omega
      · obtain rfl : k = ls.length := by omega
        have htk : ws.take ls.length = ws := List.take_of_length_le (by rw [HWL.out]; exact Nat.le_refl _)
        rw [htk] at HR3 HND
        have HWS : Hid (ws.length ≤ 12) := by show ws.length ≤ 12; rw [HWL.out]; omega
        obtain ⟨xt, HXT⟩ : ∃ z, Hid ((tsI ws).map bT = z) := ⟨_, rfl⟩
        obtain ⟨xb, HXB⟩ : ∃ z, Hid ((tsI ws).reverse.map bT = z) := ⟨_, rfl⟩
        obtain ⟨us, HUS⟩ : ∃ z, Hid (usM ws = z) := ⟨_, rfl⟩
        have HRX : Hid (R3 B wr vT vB vU xt xb us) := by have := HR3.out.r3; rw [HXT.out, HXB.out, HUS.out] at this; exact this
        have HLX : Hid (xt.length ≤ 12 ∧ xb.length ≤ 12 ∧ us.length ≤ 24) := by
          show _ ∧ _ ∧ _
          rw [← HXT.out, ← HXB.out, ← HUS.out, List.length_map, List.length_map, List.length_reverse, tsI_len, usM_len]; have := HWS.out; omega
        clear htk HR3
        go_wp2_with fail
        refine (use_any kLast wr).mono ?_
        rintro e w1 ⟨C', K', rfl, hC, hK, b4, b5, k1⟩
        have HR1 := Lib.hid (HRX.out.kept k1)
        have hBr : B < wr.heap.size := HBR.out.lt
        have hB1 : B < w1.heap.size := Nat.lt_of_lt_of_le hBr k1.size
        have hz8 : C' < w1.heap.size := b4.lt
        have hz9 : K' < w1.heap.size := b5.lt
        obtain ⟨css, HCSS⟩ : ∃ z : List (List Value), Hid ([[.int .i64 11, .string (bs []), .string (bs []), .string (bs []), .string (bs []), .slice (some ⟨C', 0, none⟩) 1 1, .slice none 0 0, .slice none 0 0, .slice none 0 0, .slice (some ⟨K', 0, none⟩) 1 1]] = z) := ⟨_, rfl⟩
        have HG1 : Hid (Blk (w1.alloc (.cells #[.int .i64 11, .string (bs []), .string (bs []), .string (bs []), .string (bs []), .slice (some ⟨C', 0, none⟩) 1 1, .slice none 0 0, .slice none 0 0, .slice none 0 0, .slice (some ⟨K', 0, none⟩) 1 1] 41)) w1.heap.size 41 css.flatten.toArray) := by
          rw [← HCSS.out]; exact Blk.new w1 41 _
        have HY1 : Hid (∀ (j : Nat) (cs : List Value) (y : Inl), css[j]? = some cs → [inlU kLast][j]? = some y → InlK 1 (fun i => B < i ∧ vT.ownBlock ≠ some i ∧ vB.ownBlock ≠ some i ∧ vU.ownBlock ≠ some i ∧ w1.heap.size ≠ i) (w1.alloc (.cells #[.int .i64 11, .string (bs []), .string (bs []), .string (bs []), .string (bs []), .slice (some ⟨C', 0, none⟩) 1 1, .slice none 0 0, .slice none 0 0, .slice none 0 0, .slice (some ⟨K', 0, none⟩) 1 1] 41)) cs y) := by
          intro j cs y h1 h2
          rw [← HCSS.out] at h1
          cases j with
          | zero =>
            cases h1; cases h2
            exact use_inl (n := 0) ⟨by omega, HRX.out.size_T hC, HRX.out.size_B hC, HRX.out.size_U hC, by omega⟩ ⟨by omega, HRX.out.size_T hK, HRX.out.size_B hK, HRX.out.size_U hK, by omega⟩ (b4.kept (kept_alloc _ _)) (b5.kept (kept_alloc _ _))
          | succ j => simp at h2
        have HCL : Hid ((∀ cs ∈ css, cs.length = 10) ∧ css.length = 1) := by
          rw [← HCSS.out]; exact ⟨fun cs h => by simp at h; rw [h]; rfl, rfl⟩
        have HK1 := Lib.hid k1
        clear hC hK b4 b5 k1
        unfold useV
        go_wp2_with (first
          | (refine wpList_append_two rfl (.tmp 85) (.tmp 87) rfl w1.heap.size 1 (by rfl) (by rfl) HR1.out (kept_alloc w1 (.cells #[.int .i64 11, .string (bs []), .string (bs []), .string (bs []), .string (bs []), .slice (some ⟨C', 0, none⟩) 1 1, .slice none 0 0, .slice none 0 0, .slice none 0 0, .slice (some ⟨K', 0, none⟩) 1 1] 41)) hB1 (Nat.le_refl _) css [inlU kLast] rfl HG1.out HCL.out.1 HCL.out.2 (by omega) (by omega) HY1.out (by have := HLX.out; omega) ?_; intro g2 c2 w2 hr2 hg2; have HR2 := Lib.hid hr2; have HG2 := Lib.hid hg2; clear hr2 hg2)
          | fail)
        refine (para_any (some ⟨g2, 0, none⟩) (us.length + 1) c2 w2).mono ?_
        rintro e w3 ⟨rfl, k3⟩
        obtain ⟨X1, HX1⟩ : ∃ z, Hid (w3.heap.size = z) := ⟨_, rfl⟩
        have HP3 : Hid (Blk (w3.alloc (.cells (paC g2 (us.length + 1) c2) 37)) X1 37 (paC g2 (us.length + 1) c2)) := by rw [← HX1.out]; exact Blk.new _ _ _
        have hk3 : Kept w2 (w3.alloc (.cells (paC g2 (us.length + 1) c2) 37)) := k3.trans (kept_alloc _ _)
        have HK3 := Lib.hid hk3
        have HS3 : Hid (w2.heap.size ≤ X1) := by rw [← HX1.out]; exact k3.size
        clear k3 hk3
        go_wp2_with fail
        rw [HX1.out]
        refine (term_any kLast [122] none 0 0 (w3.alloc (.cells (paC g2 (us.length + 1) c2) 37))).mono ?_
        rintro e w5 ⟨P, rfl, hP, bP, k5⟩
        obtain ⟨X2, HX2⟩ : ∃ z, Hid (w5.heap.size = z) := ⟨_, rfl⟩
        obtain ⟨w6, HW6⟩ : ∃ z, Hid (w5.alloc (.cells (zmC P) 37) = z) := ⟨_, rfl⟩
        have hk6 : Kept w5 w6 := by rw [← HW6.out]; exact kept_alloc _ _
        have HM1 : Hid (Blk w6 X1 37 (paC g2 (us.length + 1) c2)) := (HP3.out.kept k5).kept hk6
        have HM2 : Hid (Blk w6 X2 37 (zmC P)) := by rw [← HW6.out, ← HX2.out]; exact Blk.new _ _ _
        have HMP : Hid (Blk w6 P 60 #[.string (bs kName), .string (bs kLast)]) := bP.kept hk6
        have HK26 : Hid (Kept w2 w6) := (HK3.out.trans k5).trans hk6
        have HR6 := Lib.hid (HR2.out.kept HK26.out)
        have HLP : Hid (w2.heap.size ≤ P) := Nat.le_trans HK3.out.size hP
        have HOW2 : Hid (Only (fun i => B < i) w1 w2) := (Only.of_kept (kept_alloc _ _)).trans ((Only.grown HG2.out).mono (fun i _ e => (HR1.out.U.blk i e.symm).1))
        have HBX : Hid (Blk w6 B 26 #[.slice aR c.ranks.length cR, .slice aO c.order.length cO, .string (bs c.ignore)]) := ((HBR.out.kept HK1.out).onl HOW2.out (Nat.lt_irrefl B)).kept HK26.out
        have HKX : Hid (Kept w w6) := ((HKR.out.trans HK1.out).trans' (HOW2.out.below (HKR.out.trans HK1.out).size (fun i q => by rw [HB.out]; exact Nat.le_of_lt q))).trans HK26.out
        have HNX : Hid (B < X1 ∧ B < X2 ∧ B < P) := by
          have h1 : B < w2.heap.size := Nat.lt_of_lt_of_le hB1 HOW2.out.size
          have h2 := HS3.out
          have h3 := HX1.out
          have h4 := HX2.out
          have h5 := HLP.out
          have h6 := k5.size
          have h7 := HK3.out.size
          exact ⟨by omega, by omega, by omega⟩
        have HOWN : Hid (∀ i, w2.heap.size ≤ i → vT.ownBlock ≠ some i ∧ vB.ownBlock ≠ some i ∧ (Value.slice (some ⟨g2, 0, none⟩) (us.length + 1) c2).ownBlock ≠ some i) := fun i h => ⟨HR2.out.size_T h, HR2.out.size_B h, HR2.out.size_U h⟩
        have HXG : Hid (w2.heap.size ≤ X1 ∧ w2.heap.size ≤ X2 ∧ w2.heap.size ≤ P) := ⟨HS3.out, (by have h4 := HX2.out; have h6 := k5.size; have h7 := HK3.out.size; omega), HLP.out⟩
        clear hP bP k5 hk6 HX1 HP3 HK3 HR2 HG2 hB1 hz8 hz9 HG1 HY1 HCL HCSS HK1 HR1 hBr HBR HKR HRX HOW2
        go_wp2_with fail
        go_loopw [13] (fun j wr => ∃ (m : Nat), m ≤ ls.length ∧ j = .int .i64 m ∧ Hid (∀ y ∈ ws.take m, y ≠ kLast) ∧ Hid (Kept w6 wr)) (fun j _ => ls.length - (intOf j).toNat)
        case atStart => exact ⟨0, Nat.zero_le _, rfl, (fun y h => by simp at h), (by show Kept w6 _; rw [← HW6.out]; exact Kept.refl _)⟩
        case round =>
          obtain ⟨m, hm, rfl, HNE, HKJ⟩ := hrel
          have HKW := Lib.hid (HKX.out.trans HKJ.out)
          have HBJ := Lib.hid (HBX.out.kept HKJ.out)
          by_cases hlt : m < ls.length
          · obtain ⟨x, hx⟩ : ∃ x, ls[m]? = some x := ⟨_, List.getElem?_eq_getElem hlt⟩
            have hxl := HLL.out x (List.mem_of_getElem? hx)
            have hvr := HV.out.kept HKW.out
            obtain ⟨g, o, csx, hax, hg, -, hcx, hcellx, ⟨ux, rfl, hux⟩, -, -⟩ := RowR.at_ (show RowR (fun _ => True) 1 (BytK wr) wr _ _ from hvr) m x hx
            subst hax
            have cx := hcellx 0 _ rfl
            rw [Nat.mul_one, Nat.add_zero] at cx
            obtain ⟨ax, cpx, rfl, -, -⟩ := id hux
            have HUX := Lib.hid hux
            have HWX := Lib.hid (HWA.out m x hx)
            have HWX1 := Lib.hid (fun w' (h : Kept wr w') => word_any (.slice ax x.length cpx) x w' (HUX.out.kept h) hxl)
            obtain ⟨W1, HW1⟩ : ∃ z, Hid (wordL x = z) := ⟨_, rfl⟩
            have hW1 : W1.length ≤ 1000 := by rw [← HW1.out]; have := wordL_len x; omega
            rw [HW1.out] at HWX1 HWX
            have b0 : wr.cell? ⟨B, 0, none⟩ = some (.slice aR c.ranks.length cR) := HBJ.out.cell 0 _ rfl
            have b1 : wr.cell? ⟨B, 1, none⟩ = some (.slice aO c.order.length cO) := HBJ.out.cell 1 _ rfl
            have b2 : wr.cell? ⟨B, 2, none⟩ = some (.string (bs c.ignore)) := HBJ.out.cell 2 _ rfl
            have zB := HBJ.out.lt
            have q3 : (0 : Int) ≤ (m : Int) := by omega
            have q4 : (m : Int) < (ls.length : Int) := by omega
            have HCC : Hid (∀ w', Kept wr w' → ((w'.cell? ⟨B, 0, none⟩ = some (.slice aR c.ranks.length cR) ∧ w'.cell? ⟨B, 1, none⟩ = some (.slice aO c.order.length cO) ∧ w'.cell? ⟨B, 2, none⟩ = some (.string (bs c.ignore))) ∧ w'.cell? ⟨g, o + m, none⟩ = some (.slice ax x.length cpx)) ∧ (B < w'.heap.size ∧ g < w'.heap.size) ∧ Kept wr w') := fun w' h => ⟨⟨⟨(h.cell (p := ⟨B, 0, none⟩) zB).trans b0, (h.cell (p := ⟨B, 1, none⟩) zB).trans b1, (h.cell (p := ⟨B, 2, none⟩) zB).trans b2⟩, (h.cell (p := ⟨g, o + m, none⟩) hg).trans cx⟩, ⟨Nat.lt_of_lt_of_le zB h.size, Nat.lt_of_lt_of_le hg h.size⟩, h⟩
            have hkd : Kept wr wr.drew := kept_drewN wr 1
            have HCM := Lib.hid (fun w' (h : Kept wr w') => HCMP.out W1 kLast w' (HCOL.out.kept (HKW.out.trans h)) hW1 (by simp [kLast]))
            obtain ⟨R, HR⟩ : ∃ z, Hid (cmpC c W1 kLast = z) := ⟨_, rfl⟩
            rw [HR.out] at HCM
            obtain ⟨b, HBB⟩ : ∃ b, Hid (decide (R = 0) = b) := ⟨_, Lib.hid rfl⟩
            have hb1 : (R == 0) = b := by rw [← HBB.out, Bool.eq_iff_iff]; simp
            have hb2 : decide (R = 0) = b := HBB.out
            clear hvr hcellx hux hx hcx b0 b1 b2
            go_wp2_with fail
            go_region_held3 (fun w' => ((w'.cell? ⟨B, 0, none⟩ = some (.slice aR c.ranks.length cR) ∧ w'.cell? ⟨B, 1, none⟩ = some (.slice aO c.order.length cO) ∧ w'.cell? ⟨B, 2, none⟩ = some (.string (bs c.ignore))) ∧ w'.cell? ⟨g, o + m, none⟩ = some (.slice ax x.length cpx)) ∧ (B < w'.heap.size ∧ g < w'.heap.size) ∧ Kept wr w')
              ((refine HCC.out _ ?_; assumption))
              (first
                | (go_at_call 7; refine (HCM.out _ kA).mono ?_; rintro e w8 ⟨rfl, hk8⟩; have kC : Kept wr w8 := kA.trans hk8; clear hk8)
                | (go_at_call 8; refine (HWX1.out _ (by assumption)).mono ?_; rintro e w7 ⟨rfl, hk7⟩; have kA : Kept wr w7 := Kept.trans (by assumption) hk7; clear hk7))
            all_goals
              have HKC := Lib.hid kC
              clear HCC HCM cx hkd kA kC
              cases b with
              | true =>
                go_wp2_with fail
                refine (awake27_any w8).mono ?_
                rintro e w9 ⟨rfl, hk9⟩
                have HKZ := Lib.hid ((HKW.out.trans HKC.out).trans hk9)
                clear hk9
                go_wp2_with fail
                (try go_ret)
                exact HFIN.out _ HKZ.out
              | false =>
                have HNE2 : Hid (∀ z ∈ ws.take (m + 1), z ≠ kLast) := fun z hz => by
                  rw [take_snoc HWX.out] at hz
                  rcases List.mem_append.1 hz with q | q
                  · exact HNE.out z q
                  · rw [List.mem_singleton] at q
                    have := of_decide_eq_false HBB.out
                    rw [← HR.out, cmpC_zero] at this
                    rw [q]; exact this
                have HKM := Lib.hid (HKJ.out.trans HKC.out)
                clear HNE HBB hb1 hb2 HKJ HKW HBJ
                go_wp2_with fail
                go_roundw
                case rel => exact ⟨m + 1, by omega, by go_num, HNE2.out, HKM.out⟩
                case measure => simp [intOf]; omega
          · obtain rfl : m = ls.length := by omega
            have HNDL : Hid ((ws ++ [kLast]).Nodup) := by
              show (ws ++ [kLast]).Nodup
              refine nodup_snoc HND.out (fun q => HNE.out kLast ?_ rfl)
              rw [List.take_of_length_le (by rw [HWL.out]; exact Nat.le_refl _)]; exact q
            have HRJ := Lib.hid (HR6.out.kept HKJ.out)
            have HJ1 := Lib.hid (HM1.out.kept HKJ.out)
            have HJ2 := Lib.hid (HM2.out.kept HKJ.out)
            have HJP := Lib.hid (HMP.out.kept HKJ.out)
            clear HNE HND HR6 HM1 HM2 HMP HBX HKX HKJ
            obtain ⟨ts', hp', hs', hres⟩ := resF c HNDL.out
            obtain ⟨RES, HRS⟩ : ∃ z, Hid ([bloP (lnkL (idsE (tsF ws)) ws kLast), glosL none ts'] = z) := ⟨_, rfl⟩
            rw [HRS.out] at hres
            have HRES := Lib.hid hres
            have HTP := Lib.hid hp'
            have HSRT := Lib.hid hs'
            clear hres hp' hs'
            have HKT : Hid ((tsF ws).map bT = xt ++ [bT (kLast, [122])]) := by show _ = _; rw [← HXT.out]; unfold tsF; rw [List.map_append]; rfl
            have HKB : Hid ((tsR ws).map bT = bT (kLast, [122]) :: xb) := by show _ = _; rw [← HXB.out]; rfl
            have HUL : Hid (usL ws kLast = us ++ [inlU kLast]) := by show _ = _; rw [← usM_last, HUS.out]
            have hBr : B < wr.heap.size := HBJ.out.lt
            go_upto_region 24 with fail
            go_cut [14, 15] from 106 to 118 (fun v14 v15 wx => ∃ (X : Nat) (vM vD : Value), v14 = .pointer (some ⟨X, 0, none⟩) ∧ v15 = .int .i64 0 ∧ Hid (Blk wx X 45 #[vM, vD]) ∧ Hid (wr.heap.size ≤ X) ∧ Hid (Prs wx vM []) ∧ Hid (Bls (fun g => g < wx.heap.size) 7 2 wx vD RES) ∧ Hid (Only (fun i => some i = vT.ownBlock) wr wx))
            case first =>
              rename_i J' K' hRJ hMK
              refine reg24 vT (.slice aR c.ranks.length cR) (.slice aO c.order.length cO) c.ignore B X1 X2 (xt.length + 1) g2 (us.length + 1) c2 P (fun w g cg => R3 B w (.slice (some ⟨g, 0, none⟩) (xt.length + 1) cg) vB (.slice (some ⟨g2, 0, none⟩) (us.length + 1) c2) (xt ++ [bT (kLast, [122])]) xb (us ++ [inlU kLast])) (fun i => some i = vT.ownBlock) RES (by kernel_rfl) ⟨_, rfl, rfl, rfl, rfl⟩ ⟨_, rfl, rfl, rfl, rfl⟩ ⟨_, rfl, rfl, rfl, rfl⟩ ⟨_, rfl, rfl, rfl, rfl⟩ ⟨_, rfl, rfl, rfl, rfl⟩ ⟨_, rfl, rfl, rfl, rfl⟩ ⟨_, rfl, rfl, rfl, rfl⟩ ⟨_, rfl, rfl, rfl, rfl⟩ ⟨_, rfl, rfl, rfl, rfl⟩ ⟨_, rfl, rfl, rfl, rfl⟩ ⟨_, rfl, rfl, rfl, rfl⟩ ⟨_, rfl, rfl, rfl, rfl⟩ ⟨_, rfl, rfl, rfl, rfl⟩ ⟨_, rfl, rfl, rfl, rfl⟩ ⟨_, rfl, rfl, rfl, rfl⟩ ⟨_, rfl, rfl, rfl, rfl⟩ (by simp) rfl rfl rfl (congrArg (fun z => Value.pointer (some ⟨z, 0, none⟩)) HX2.out) HBJ.out HJ1.out HJ2.out ?_ (fun w w' g cg h k => h.kept k) ?_ ?_ ?_
              · intro i e
                have h1 := HRJ.out.T.blk i e.symm
                refine ⟨h1.2, fun q => by omega, fun q => ?_, fun q => ?_⟩
                · exact (HOWN.out X1 HXG.out.1).1 (by rw [← q]; exact e.symm)
                · exact (HOWN.out X2 HXG.out.2.1).1 (by rw [← q]; exact e.symm)
              · intro rest o Q' a' w' g3 hg ho hk hs3 hx hv hb H
                exact wpList_append_fore hg _ _ ho g3 hv hx HRJ.out hk hBr (zmC P).toList hb rfl (bT (kLast, [122])) (term_blo ⟨⟨HNX.out.2.2, (HOWN.out P HXG.out.2.2).2.1, (HOWN.out P HXG.out.2.2).2.2⟩, (HOWN.out P HXG.out.2.2).1⟩ (HJP.out.kept hk) (Bls.none_ _ _ _ _)) (by have := HLX.out; omega) (fun g cg w'' hr hgr _ => H g cg w'' hr ((Only.grown hgr).mono (fun i _ e => .inl e)))
              · intro w' g cg D hr ho hb
                exact fill_at (List.Perm.refl _) HNDL.out HWS.out HWN.out HSM.out (HRES.out _ (List.Perm.refl _)) hb (by rw [HUL.out]; exact hr.lns) (by rw [HKT.out]; exact hr.blsT) (HCOL.out.kept (HKW.out.trans' (ho.below HKW.out.size (fun i e => by have := (HRJ.out.T.blk i e.symm).1; rw [HB.out]; omega))))
              · intro V w' X vM vD h1 h2 h3 h4 h5 h6 h7
                simp only [Act.put, List.setIfInBounds_toArray, List.set_cons_zero, List.set_cons_succ]
                refine hMK _ _ (Met.intro (hRJ _ _ ?_))
                (repeat apply Exists.intro)
                refine ⟨?rel2, rfl⟩
                exact ⟨X, vM, vD, h1, h2, h3, h4, h5, h6, h7⟩
            case rest =>
              obtain ⟨X3, vM3, vD3, rfl, rfl, HX3, HXL, HPM3, HBD3, HO3⟩ := hcut
              obtain ⟨wd, rfl⟩ : ∃ z : World, z = wc := ⟨_, rfl⟩
              have HRC := Lib.hid (HRJ.out.dropT HO3.out)
              have HC1 : Hid (Blk wd X1 37 (paC g2 (us.length + 1) c2)) := HJ1.out.onl HO3.out (fun e => (HOWN.out X1 HXG.out.1).1 e.symm)
              have HC2 : Hid (Blk wd X2 37 (zmC P)) := HJ2.out.onl HO3.out (fun e => (HOWN.out X2 HXG.out.2.1).1 e.symm)
              have HCP : Hid (Blk wd P 60 #[.string (bs kName), .string (bs kLast)]) := HJP.out.onl HO3.out (fun e => (HOWN.out P HXG.out.2.2).1 e.symm)
              have HBC : Hid (Blk wd B 26 #[.slice aR c.ranks.length cR, .slice aO c.order.length cO, .string (bs c.ignore)]) := HBJ.out.onl HO3.out (fun e => by have := (HRJ.out.T.blk B e.symm).1; omega)
              have HKC : Hid (Kept w wd) := HKW.out.trans' (HO3.out.below HKW.out.size (fun i e => by have := (HRJ.out.T.blk i e.symm).1; rw [HB.out]; omega))
              have hBd : B < wd.heap.size := HBC.out.lt
              clear HRJ HJ1 HJ2 HJP HBJ HO3 hBr HXL
              go_upto_region 25 with fail
              go_cut [16, 17] from 119 to 131 (fun v16 v17 wx => ∃ (X : Nat) (vM vD : Value), v16 = .pointer (some ⟨X, 0, none⟩) ∧ v17 = .int .i64 0 ∧ Hid (Blk wx X 45 #[vM, vD]) ∧ Hid (Prs wx vM []) ∧ Hid (Bls (fun g => g < wx.heap.size) 7 2 wx vD RES) ∧ Hid (Kept wd wx))
              case first =>
                rename_i J' K' hRJ hMK
                refine reg25 vB (.slice aR c.ranks.length cR) (.slice aO c.order.length cO) c.ignore B X1 X2 (1 + xb.length) g2 (us.length + 1) c2 P (fun w g cg => R3 B w (.slice none 0 0) (.slice (some ⟨g, 0, none⟩) (1 + xb.length) cg) (.slice (some ⟨g2, 0, none⟩) (us.length + 1) c2) [] (bT (kLast, [122]) :: xb) (us ++ [inlU kLast])) (fun _ => False) RES (by kernel_rfl) ⟨_, rfl, rfl, rfl, rfl⟩ ⟨_, rfl, rfl, rfl, rfl⟩ ⟨_, rfl, rfl, rfl, rfl⟩ ⟨_, rfl, rfl, rfl, rfl⟩ ⟨_, rfl, rfl, rfl, rfl⟩ ⟨_, rfl, rfl, rfl, rfl⟩ ⟨_, rfl, rfl, rfl, rfl⟩ ⟨_, rfl, rfl, rfl, rfl⟩ ⟨_, rfl, rfl, rfl, rfl⟩ ⟨_, rfl, rfl, rfl, rfl⟩ ⟨_, rfl, rfl, rfl, rfl⟩ ⟨_, rfl, rfl, rfl, rfl⟩ ⟨_, rfl, rfl, rfl, rfl⟩ ⟨_, rfl, rfl, rfl, rfl⟩ ⟨_, rfl, rfl, rfl, rfl⟩ ⟨_, rfl, rfl, rfl, rfl⟩ (by simp) rfl rfl rfl (congrArg (fun z => Value.pointer (some ⟨z, 0, none⟩)) HX2.out) HBC.out HC1.out HC2.out (fun i e => e.elim) (fun w w' g cg h k => h.kept k) ?_ ?_ ?_
                · intro rest o Q' a' w' g3 hg ho hk hs3 hx hv hb H
                  exact wpList_append_back hg _ _ ho g3 hx hv HRC.out hk hs3 hBd (zmC P).toList hb rfl (bT (kLast, [122])) (term_blo ⟨⟨HNX.out.2.2, (fun q => by simp [Value.ownBlock] at q), (HOWN.out P HXG.out.2.2).2.2⟩, fun q => by have := HCP.out.lt; omega⟩ (HCP.out.kept hk) (Bls.none_ _ _ _ _)) (by have := HLX.out; omega) (fun g cg w'' hr _ ho2 => H g cg w'' hr (ho2.mono (fun i _ e => .inr e)))
                · intro w' g cg D hr ho hb
                  exact fill_at (tsR_perm ws) HNDL.out HWS.out HWN.out HSM.out (HRES.out _ (tsR_perm ws)) hb (by rw [HUL.out]; exact hr.lns) (by rw [HKB.out]; exact hr.blsB) (HCOL.out.kept (HKC.out.trans ho.to_kept))
                · intro V w' X vM vD h1 h2 h3 h4 h5 h6 h7
                  simp only [Act.put, List.setIfInBounds_toArray, List.set_cons_zero, List.set_cons_succ]
                  refine hMK _ _ (Met.intro (hRJ _ _ ?_))
                  (repeat apply Exists.intro)
                  refine ⟨?rel3, rfl⟩
                  exact ⟨X, vM, vD, h1, h2, h3, h5, h6, h7.to_kept⟩
              case rest =>
                obtain ⟨X4, vM4, vD4, rfl, rfl, HX4, HPM4, HBD4, HK4⟩ := hcut
                have HRN : Hid ((tsF ws).map (·.1) = ws ++ [kLast]) := tsF_fst ws
                have HTL : Hid (ts'.length = ls.length + 1) := by show _ = _; rw [HTP.out.length_eq]; unfold tsF; rw [List.length_append, tsI_len, HWL.out]; rfl
                have HIDS : Hid (∀ nm, (idsE (tsF ws) nm).length ≤ 900) := idsF_len HWN.out
                have HTS2 : Hid (∀ t ∈ ts', t.1 ≠ [] ∧ t.2 ≠ [] ∧ t.1.length ≤ 900 ∧ t.2.length ≤ 900) := fun t h => tsF_ok HWN.out (HTP.out.mem_iff.1 h)
                have HUW : Hid (∀ s ∈ ws ++ [kLast], s.length ≤ 900) := by
                  intro s h
                  rcases List.mem_append.1 h with q | q
                  · have := (HWN.out s q).2; omega
                  · rw [List.mem_singleton] at q; subst q; simp [kLast]
                have hl19 : ts'.length ≤ 19 := by have h1 := HTL.out; have h2 := HWS.out; have h3 := HWL.out; omega
                have HOK : Hid (okBL RES) := by rw [← HRS.out]; exact okB_res HIDS.out HUW.out (by have := HWS.out; omega) (fun t h => ⟨(HTS2.out t h).2.2.1, (HTS2.out t h).2.2.2⟩) hl19
                have HRL : Hid (RES.length = 2) := by rw [← HRS.out]; rfl
                have HX3c := Lib.hid (HX3.out.kept HK4.out)
                have HPM3c := Lib.hid (HPM3.out.kept HK4.out)
                have HBD3c : Hid (Bls (fun g => g < wc.heap.size) 7 2 wc vD3 RES) := (HBD3.out.kept HK4.out).mono (fun g h _ => h)
                have HKW4 := Lib.hid (HKC.out.trans HK4.out)
                have HSAM := Lib.hid (same4_eq 7 2 vM3 vM4 vD3 vD4 [] RES wc HPM3c.out HPM4.out (by simp) (HBD3c.out.mono (fun _ _ _ => trivial)) (HBD4.out.mono (fun _ _ _ => trivial)) (by have := HRL.out; omega) HOK.out)
                have hf := HBD3c.out.form
                rw [HRL.out] at hf
                obtain ⟨aD, cD, rfl, lD⟩ := hf
                obtain ⟨aM, cM, rfl, lM⟩ := HPM3c.out.form
                obtain ⟨g5, o5, cs5, ha5, hg5, hs5, hc5l, hc5, hb5, -, -⟩ := RowR.at_ (show RowR (fun g => g < wc.heap.size) 11 _ wc _ RES from HBD3c.out) 1 (glosL none ts') (by rw [← HRS.out]; rfl)
                subst ha5
                obtain ⟨vC5, vP5, vL5, vK5, hcs5, -, -, -, hb6⟩ := (show BloW _ 7 _ wc cs5 (Blo.mk 13 0 kGlos [] [] [] [] [] [] [] (ts'.map bT)) from hb5)
                subst hcs5
                have hk6 := (show Bls (fun g => g < wc.heap.size) 7 1 wc vK5 (ts'.map bT) from hb6).form
                rw [List.length_map, HTL.out] at hk6
                obtain ⟨aK5, cK5, rfl, lK5⟩ := hk6
                have hc5' := hc5 10 _ rfl
                have hc56 : wc.cell? ⟨g5, o5 + 11 + 10, none⟩ = some (.slice aK5 (ls.length + 1) cK5) := hc5'
                have HC56 := Lib.hid hc56
                have hg4 := HBD4.out.form
                rw [HRL.out] at hg4
                obtain ⟨aD4, cD4, rfl, lD4⟩ := hg4
                obtain ⟨aM4, cM4, rfl, lM4⟩ := HPM4.out.form
                have x0 : wc.cell? ⟨X3, 0, none⟩ = some (.slice aM 0 cM) := HX3c.out.cell 0 _ rfl
                have x1 : wc.cell? ⟨X3, 1, none⟩ = some (.slice (some ⟨g5, o5, none⟩) 2 cD) := HX3c.out.cell 1 _ rfl
                have y0 : wc.cell? ⟨X4, 0, none⟩ = some (.slice aM4 0 cM4) := HX4.out.cell 0 _ rfl
                have y1 : wc.cell? ⟨X4, 1, none⟩ = some (.slice aD4 2 cD4) := HX4.out.cell 1 _ rfl
                have zX3 := HX3c.out.lt
                have zX4 := HX4.out.lt
                have HG5 := Lib.hid hg5
                clear hb5 hb6 hc5 hc5' hc56 hs5 hg5
                go_wp2_with fail
                have hq1 : ((ls.length + 1 : Nat) : Int) = (ls.length : Int) + 1 := by omega
                refine HSAM.out.mono ?_
                rintro e w7 ⟨rfl, k7⟩
                have x0' := (k7.cell (p := ⟨X3, 0, none⟩) zX3).trans x0
                have x1' := (k7.cell (p := ⟨X3, 1, none⟩) zX3).trans x1
                have c5' := (k7.cell (p := ⟨g5, o5 + 11 + 10, none⟩) HG5.out).trans HC56.out
                have zX3' := Nat.lt_of_lt_of_le zX3 k7.size
                have hg5' := Nat.lt_of_lt_of_le HG5.out k7.size
                have HK7 := Lib.hid (HKW4.out.trans k7)
                have HBC7 := Lib.hid ((HBC.out.kept HK4.out).kept k7)
                have HTER := Lib.hid (fun (vM' vB' : Value) (hm : Prs w7 vM' []) (hv : Bls (fun g => g < w7.heap.size) 7 (1 + 1) w7 vB' [bloP (lnkL (idsE (tsF ws)) ws kLast), glosL none ts']) => terms_res HIDS.out HUW.out (by have := HWS.out; omega) HTS2.out ((HTP.out.map _).nodup_iff.2 (by rw [HRN.out]; exact HNDL.out)) hl19 7 1 vM' vB' w7 hm hv)
                have HPM7 := Lib.hid (HPM3c.out.kept k7)
                have HBD7 : Hid (Bls (fun g => g < w7.heap.size) 7 2 w7 (.slice (some ⟨g5, o5, none⟩) 2 cD) RES) := (HBD3c.out.kept k7).mono (fun g h _ => h)
                rw [HRS.out] at HTER
                clear k7 x0 x1 y0 y1 zX3 zX4 HC56 HG5 HSAM HBD3c HPM3c HX3c HX4 HPM4 HBD4
                go_wp2_with fail
                refine (HTER.out _ _ HPM7.out HBD7.out).mono ?_
                rintro e w8 ⟨v8, rfl, hrow, k8⟩
                have HROW := Lib.hid hrow
                have hf8 := hrow.form
                rw [HTL.out] at hf8
                obtain ⟨aE, cE, rfl, lE⟩ := hf8
                have HK8 := Lib.hid (HK7.out.trans k8)
                have HBC8 := Lib.hid (HBC7.out.kept k8)
                clear hrow k8 x0' x1' c5' zX3' hg5' HTER HPM7 HBD7 HK7 HBC7
                go_wp2_with fail
                go_loopw [20] (fun i wr => ∃ (j : Nat), j ≤ ls.length ∧ i = .int .i64 ((j : Int) + 1) ∧ Hid (Kept w8 wr)) (fun i _ => ls.length + 1 - (intOf i).toNat)
                case atStart => exact ⟨0, Nat.zero_le _, rfl, Kept.refl _⟩
                case round =>
                  obtain ⟨j, hj, rfl, HKJ⟩ := hrel
                  have HKW9 := Lib.hid (HK8.out.trans HKJ.out)
                  have HBJ := Lib.hid (HBC8.out.kept HKJ.out)
                  by_cases hlt : j < ls.length
                  · obtain ⟨t1, ht1⟩ : ∃ z, ts'[j]? = some z := ⟨_, List.getElem?_eq_getElem (by have := HTL.out; omega)⟩
                    obtain ⟨t2, ht2⟩ : ∃ z, ts'[j + 1]? = some z := ⟨_, List.getElem?_eq_getElem (by have := HTL.out; omega)⟩
                    have hlen1 := (HTS2.out t1 (List.mem_of_getElem? ht1)).2.2.1
                    have hlen2 := (HTS2.out t2 (List.mem_of_getElem? ht2)).2.2.1
                    have hasc := asc_of c HNDL.out HTP.out HSRT.out j t1 t2 ht1 ht2
                    obtain ⟨gE, oE, csE, hax, hgE, -, -, hcE, hE, -, -⟩ := RowR.at_ (show RowR (fun g => g < w8.heap.size) 5 _ w8 _ ts' from HROW.out) j t1 ht1
                    obtain ⟨gF, oF, csF, hay, hgF, -, -, hcF, hF, -, -⟩ := RowR.at_ (show RowR (fun g => g < w8.heap.size) 5 _ w8 _ ts' from HROW.out) (j + 1) t2 ht2
                    subst hax
                    cases hay
                    have hE' : csE = [.int .i64 1, .string (bs t1.2), .string (bs t1.1), .slice none 0 0, .slice none 0 0] := hE
                    have hF' : csF = [.int .i64 1, .string (bs t2.2), .string (bs t2.1), .slice none 0 0, .slice none 0 0] := hF
                    subst hE' hF'
                    have cE2 := (HKJ.out.cell (p := ⟨gE, oE + j * 5 + 2, none⟩) hgE).trans (hcE 2 _ rfl)
                    have cF2 := (HKJ.out.cell (p := ⟨gE, oE + (j + 1) * 5 + 2, none⟩) hgE).trans (hcF 2 _ rfl)
                    have zE := Nat.lt_of_lt_of_le hgE HKJ.out.size
                    obtain ⟨n1, HN1⟩ : ∃ z, Hid (t1.1 = z) := ⟨_, rfl⟩
                    obtain ⟨n2, HN2⟩ : ∃ z, Hid (t2.1 = z) := ⟨_, rfl⟩
                    rw [HN1.out] at cE2 hlen1 hasc
                    rw [HN2.out] at cF2 hlen2 hasc
                    obtain ⟨R, HR⟩ : ∃ z, Hid (cmpC c n1 n2 = z) := ⟨_, rfl⟩
                    rw [HR.out] at hasc
                    have HCM := Lib.hid (fun w' (h : Kept wr w') => HCMP.out n1 n2 w' (HCOL.out.kept (HKW9.out.trans h)) (by omega) (by omega))
                    rw [HR.out] at HCM
                    have b0 : wr.cell? ⟨B, 0, none⟩ = some (.slice aR c.ranks.length cR) := HBJ.out.cell 0 _ rfl
                    have b1 : wr.cell? ⟨B, 1, none⟩ = some (.slice aO c.order.length cO) := HBJ.out.cell 1 _ rfl
                    have b2 : wr.cell? ⟨B, 2, none⟩ = some (.string (bs c.ignore)) := HBJ.out.cell 2 _ rfl
                    have zB := HBJ.out.lt
                    have hR0 : decide (0 ≤ R) = false := by rw [decide_eq_false_iff_not]; omega
                    have hj12 : (j : Int) ≤ 12 := by omega
                    have hw1 : IntKind.i64.wrap (j : Int) = (j : Int) := IntWalk.i64_in _ (by omega)
                    have hw2 : IntKind.i64.wrap ((j : Int) + 1 - 1) = (j : Int) := by rw [show (j : Int) + 1 - 1 = j by omega]; exact hw1
                    have q1 : (0 : Int) ≤ (j : Int) := by omega
                    have q2 : (j : Int) < (ls.length : Int) + 1 := by omega
                    have q3 : (0 : Int) ≤ (j : Int) + 1 := by omega
                    have q4 : (j : Int) + 1 < (ls.length : Int) + 1 := by omega
                    have HCC : Hid (∀ w', Kept wr w' → ((w'.cell? ⟨B, 0, none⟩ = some (.slice aR c.ranks.length cR) ∧ w'.cell? ⟨B, 1, none⟩ = some (.slice aO c.order.length cO) ∧ w'.cell? ⟨B, 2, none⟩ = some (.string (bs c.ignore))) ∧ w'.cell? ⟨gE, oE + j * 5 + 2, none⟩ = some (.string (bs n1)) ∧ w'.cell? ⟨gE, oE + (j + 1) * 5 + 2, none⟩ = some (.string (bs n2))) ∧ (B < w'.heap.size ∧ gE < w'.heap.size) ∧ Kept wr w') := fun w' h => ⟨⟨⟨(h.cell (p := ⟨B, 0, none⟩) zB).trans b0, (h.cell (p := ⟨B, 1, none⟩) zB).trans b1, (h.cell (p := ⟨B, 2, none⟩) zB).trans b2⟩, (h.cell (p := ⟨gE, oE + j * 5 + 2, none⟩) zE).trans cE2, (h.cell (p := ⟨gE, oE + (j + 1) * 5 + 2, none⟩) zE).trans cF2⟩, ⟨Nat.lt_of_lt_of_le zB h.size, Nat.lt_of_lt_of_le zE h.size⟩, h⟩
                    have hkd : Kept wr wr.drew := kept_drewN wr 1
                    clear b0 b1 b2 hcE hcF hE hF ht1 ht2
                    go_wp2_with fail
                    go_region_held3 (fun w' => ((w'.cell? ⟨B, 0, none⟩ = some (.slice aR c.ranks.length cR) ∧ w'.cell? ⟨B, 1, none⟩ = some (.slice aO c.order.length cO) ∧ w'.cell? ⟨B, 2, none⟩ = some (.string (bs c.ignore))) ∧ w'.cell? ⟨gE, oE + j * 5 + 2, none⟩ = some (.string (bs n1)) ∧ w'.cell? ⟨gE, oE + (j + 1) * 5 + 2, none⟩ = some (.string (bs n2))) ∧ (B < w'.heap.size ∧ gE < w'.heap.size) ∧ Kept wr w')
                      ((refine HCC.out _ ?_; assumption))
                      (first | (go_at_call 7; refine (HCM.out _ (by assumption)).mono ?_; rintro e w9 ⟨rfl, hk9⟩; have kC : Kept wr w9 := Kept.trans (by assumption) hk9; clear hk9))
                    all_goals
                      have HKM := Lib.hid (HKJ.out.trans kC)
                      clear HCC HCM cE2 cF2 hkd kC
                      go_wp2_with fail
                      go_roundw
                      case rel => exact ⟨j + 1, by omega, by go_num, HKM.out⟩
                      case measure => simp [intOf]; omega
                  · obtain rfl : j = ls.length := by omega
                    go_wp2_with fail
                    refine (awake27_any wr).mono ?_
                    rintro e w9 ⟨rfl, hk9⟩
                    have HKZ := Lib.hid (HKW9.out.trans hk9)
                    clear hk9
                    go_wp2_with fail
                    (try go_ret)
                    exact HFIN.out _ HKZ.out
end Go.Proofs.Ythbnahagfojfbaa

/- Slices of texts, opened. No condition. -/
set_option linter.all false
namespace Go.Proofs.Ythbnahagfojfbaa
open Go.ChangeShapes Go.WideShapes Go.ChangeAt Go.RowKit Go.Joins

section
variable {H : Type} {enc : TypeId × Value → H} {w : World} {base : Nat} {spare : Nat → Bool} {held : Bool}
set_option maxRecDepth 100000 in
theorem cell_strs {fuel : Nat} {v : Value} {y : DataW H × List MemPlace} (h : DataW.trod enc Try.prog w base spare held fuel 24 [v] = some y) (hli : Light 24 y.1) : ∃ xs : List Bs, Strs w v xs ∧ xs.length ≤ 140737488355328 ∧ ∀ x ∈ xs, x.length ≤ 140737488355328 := by
  obtain ⟨xs, a, c, rfl, h1, h2, h3, h4⟩ := open_rows (α := Bs) (fun q f => f 0 = some (.string (bs q)) ∧ q.length ≤ 140737488355328) Try.underlying24 Try.cellsStr (by omega) (by
    intro n cs z hl ht hz
    match cs, hl with
    | [v0], _ =>
      obtain ⟨q0, rfl, f0⟩ := trod_str_l ht hz
      exact ⟨q0, rfl, f0⟩) (of_decide_eq_true (by kernel_rfl)) h hli
  refine ⟨xs, ⟨a, c, rfl, h1, fun q => ?_⟩, h2, fun q hq => ?_⟩
  · obtain ⟨g, o, ha, hg, hc⟩ := h3 q
    refine ⟨g, o, ha, hg, fun j x hx => ?_⟩
    obtain ⟨f, ⟨p0, _⟩, hcell⟩ := hc j x hx
    have := (hcell 0 (by omega)).trans p0
    simpa using this
  · obtain ⟨f, _, p⟩ := h4 q hq
    exact p
end
end Go.Proofs.Ythbnahagfojfbaa

/- An argument that is a collation, opened. No condition. -/
set_option linter.all false
namespace Go.Proofs.Ythbnahagfojfbaa
open Go.ChangeShapes Go.WideShapes Go.ChangeAt Go.RowKit Go.Joins

theorem Try.cellsCol : Try.prog.cellsOf 26 = 3 := by kernel_rfl
section
variable {H : Type} {enc : TypeId × Value → H} {w : World} {base : Nat} {spare : Nat → Bool} {held : Bool}
set_option maxRecDepth 100000 in
theorem open_col {r : Reach} {b0 : Nat} {v : Value} {d : DataW H} {p : List MemPlace} (hv : Value.okWide Try.prog w r b0 26 v) (h : DataW.Trod enc Try.prog w base spare held 26 v d p) (hli : Light 26 d) :
    ∃ (c : ColT) (vR vO : Value), v = colV vR vO c.ignore ∧ Col w vR vO c ∧ FitC c := by
  obtain ⟨v0, v1, v2, y0, y1, y2, n, rfl, rfl, _, h0, h1, h2⟩ := open_agg3 Try.underlying26 (by kernel_rfl) Try.cellsCol hv h
  obtain ⟨rs, hR, lR, fR⟩ := cell_pairs h0 (Light.part Try.underlying26 hli (j := 0) rfl rfl)
  obtain ⟨os, hO, lO, fO⟩ := cell_strs h1 (Light.part Try.underlying26 hli (j := 1) rfl rfl)
  obtain ⟨ig, rfl, li⟩ := trod_str_l h2 (Light.part Try.underlying26 hli (j := 2) rfl rfl)
  exact ⟨⟨rs, os, ig⟩, v0, v1, rfl, ⟨hR, hO⟩, lR, lO, li, fO, fR⟩
end
end Go.Proofs.Ythbnahagfojfbaa
