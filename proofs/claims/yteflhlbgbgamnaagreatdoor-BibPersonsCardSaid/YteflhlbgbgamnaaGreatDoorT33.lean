/- publisherref30.Parse. Conditions: lengths. -/
import Derived.Test.YteflhlbgbgamnaaGreatDoorT31
import Derived.Test.YteflhlbgbgamnaaGreatDoorT14
import Derived.Test.YteflhlbgbgamnaaGreatDoorT32
import Derived.Test.YteflhlbgbgamnaaGreatDoorT04

set_option linter.all false
namespace Go.Proofs.YteflhlbgbgamnaaGreatDoor
open Go.RowKit

theorem rinside_any (s : SrcT) (aA aE aF : Option Addr) (cA cE cF : Nat) (l : Bs) (w : World) (hl : l.length ≤ 100000) (hI : InSt s aA aE aF cA cE cF w) (hsm : Small4 s) :
    Calls Tryz.prog 47 #[srcV s.key s.type (.slice aA s.author.length cA) (.slice aE s.editor.length cE) (.slice aF s.fields.length cF), .string (bs l)] w (RinPost s (.slice aA s.author.length cA) (.slice aE s.editor.length cE) (.slice aF s.fields.length cF) (addS s l) w) := by
  by_cases hcut : before 61 l < l.length
  · exact rinside_rest s aA aE aF cA cE cF l w hl hI hsm hcut
  · exact rinside_form s aA aE aF cA cE cF l w hl hcut

theorem rbegin_all (v : Value) (ss : List SrcT) (l : Bs) (w : World) (hv : Srcs w v ss) (hN : ss.length ≤ 1100000) (hl : l.length ≤ 1100000) (hp : 0 < l.length) :
    Calls Tryz.prog 45 #[.string (bs l), v] w (RbegPost ss l w) := by
  cases hf : formB l
  · exact rbegin_bad v ss l w hl hp hf
  · exact rbegin_good v ss l w hv hN hl hp hf
set_option maxRecDepth 100000 in
set_option maxHeartbeats 12800000 in
theorem rbparse_any (s : Bs) (w : World) (hs : s.length ≤ 100000) : Calls Tryz.prog 13 #[.string (bs s)] w (BibPost s w) := by
  obtain ⟨i0, hi, hz0, hz1, hz2⟩ := info_parts Tryz.infoSrc
  have HV := Lib.hid (fun w => rvalid_any (bs s) w (by simp; omega))
  have HSP := Lib.hid (fun w => rsplit_own s w (by omega))
  have hlc := lines_count s
  have HLM := Lib.hid (lines_mem s)
  have HR : Hid (bibR s = if validB (bs s) = false then ([], 0, 17) else match runB (linesL s) 0 st0 with | (some (i, e), _) => ([], (i : Int), e) | (none, st) => if st.ins = true then ([], ((linesL s).length : Int) + 1, 4) else (st.done, 0, 0)) := by
    show _ = _
    unfold bibR; rw [if_neg (by omega)]; rfl
  obtain ⟨R, HRR⟩ : ∃ R, Hid (bibR s = R) := ⟨_, rfl⟩
  unfold BibPost
  rw [HRR.out] at HR ⊢
  cases hv : validB (bs s)
  · rw [hv] at HV HR
    rw [if_pos rfl] at HR
    go_enter Tryz.func13, Tryz.ntmps13
    go_wp2_with fail
    refine (HV.out _).mono ?_
    rintro e w1 ⟨rfl, hk1⟩
    have HK1 := Lib.hid hk1
    clear hk1
    go_wp2_with fail
    go_ret3
    exact ⟨.slice none 0 0, by rw [HR.out]; rfl, by rw [HR.out]; exact Srcs.none_ _, HK1.out⟩
  · rw [hv] at HV HR
    rw [if_neg (by simp)] at HR
    generalize linesL s = ls at *
    go_enter Tryz.func13, Tryz.ntmps13
    go_wp2_with fail
    refine (HV.out _).mono ?_
    rintro e w1 ⟨rfl, hk1⟩
    have HK1 := Lib.hid hk1
    clear hk1
    go_wp2_with fail
    refine (HSP.out _).mono ?_
    rintro e w2 ⟨vl, rfl, hsl, hbl, hk2⟩
    have hX2 : w1.heap.size + 1 ≤ w2.heap.size := by have := hk2.size; simp at this; omega
    have HBX := Lib.hid ((Blk.new w1 40 #[.string (bs []), .string (bs []), .slice none 0 0, .slice none 0 0, .slice none 0 0]).kept hk2)
    have HSL := Lib.hid hsl
    have HBL : Hid (BaseB (w1.heap.size + 1) vl ls) := by
      show BaseB _ _ _
      have := hbl; simpa using this
    have HK2 := Lib.hid ((HK1.out.trans (kept_alloc w1 _)).trans hk2)
    have hw1 : w.heap.size ≤ w1.heap.size := HK1.out.size
    obtain ⟨al, cl, rfl, hcl, _⟩ := hsl
    clear hk2 hbl HV HSP
    have HP0 : Hid (PInv w1.heap.size w2.heap.size st0 nilV w2 [] [] [] nilV nilV nilV) := ⟨rfl, World.ownsRow_nil _ _ _ _, by omega, Nat.le_refl _, HBX.out, (fun d h => by cases h), ⟨⟨_, _, _, rfl⟩, ⟨_, _, _, rfl⟩, ⟨_, _, _, rfl⟩⟩, fun q => by cases q⟩
    generalize w1.heap.size = X at *
    generalize hB : w2.heap.size = B at *
    go_wp2_with fail
    go_loopw [5, 7, 9] (fun vD op i wr => ∃ (k : Nat) (st : ASt) (ds : List DoneT) (kx tx : Bs) (vA vE vF : Value), k ≤ ls.length ∧ i = .int .i64 k ∧ op = .bool st.ins ∧ st.done.length ≤ k ∧ Hid (PInv X B st vD wr ds kx tx vA vE vF) ∧ Hid (Small4 st.src) ∧ Hid (KI st) ∧ Hid (runB ls 0 st0 = runB (ls.drop k) k st) ∧ Hid (Only (fun i => i = X ∨ B ≤ i) w2 wr) ∧ Hid (Kept w wr)) (fun _ _ i _ => ls.length - (intOf i).toNat)
    case atStart => exact ⟨0, st0, [], [], [], nilV, nilV, nilV, Nat.zero_le _, rfl, rfl, Nat.le_refl _, HP0.out, ⟨by simp [st0, zeroS], by simp [st0, zeroS], by simp [st0, zeroS]⟩, rfl, rfl, Only.of_kept (Kept.refl _), HK2.out⟩
    case round =>
      obtain ⟨k, st, ds, kx, tx, vA, vE, vF, hk, rfl, rfl, hdl, HP, HSM, HKI, HRUN, HO, HKR⟩ := hrel
      by_cases hlt : k < ls.length
      · obtain ⟨x, hx⟩ : ∃ x, ls[k]? = some x := ⟨_, List.getElem?_eq_getElem hlt⟩
        have hxl := HLM.out x (List.mem_of_getElem? hx)
        have htl := trimL_le x
        have HAT := Lib.hid (runB_at ls k x hx st)
        have HLS := Lib.hid (lineS_small st (trimL x) HSM.out)
        have HLC := Lib.hid (lineS_count st (trimL x))
        have HLK := Lib.hid (fun h => HKI.out.line (trimL x) h)
        have hst := HSL.out.only HBL.out HO.out (fun g h1 h2 h3 => by omega)
        obtain ⟨a', c', hv', hc', h3⟩ := hst
        obtain ⟨rfl, hdead, rfl⟩ := Value.slice.inj hv'
        clear hdead hc'
        obtain ⟨g, o, rfl, hg', hcc⟩ := h3 (by omega)
        have c0 := hcc k x hx
        have HT := Lib.hid (fun w => rtrim_any x w (by omega))
        clear hcc h3 hv' hx
        have hyl2 : (trimL x).length ≤ 100000 := by omega
        generalize trimL x = y at *
        go_wp2_with fail
        refine (HT.out _).mono ?_
        rintro e w3 ⟨rfl, rfl⟩
        by_cases hy : y = []
        · rw [if_pos hy] at HAT
          subst hy
          go_wp2_with fail
          go_roundw
          case rel => exact ⟨k + 1, st, ds, kx, tx, vA, vE, vF, by omega, by go_num, rfl, by omega, HP, HSM, HKI, Lib.hid (HRUN.out.trans HAT.out), HO, HKR⟩
          case measure => simp [intOf]; omega
        · rw [if_neg hy] at HAT
          have hyl : 0 < y.length := List.length_pos_iff.2 hy
          have hy' : (y == []) = false := by simpa using hy
          have hy2 : (List.length y == 0) = false := by simpa using hy
          have xc0 : wr.cell? ⟨X, 0, none⟩ = some (.string (bs kx)) := HP.out.blk.cell 0 _ rfl
          have xc1 : wr.cell? ⟨X, 1, none⟩ = some (.string (bs tx)) := HP.out.blk.cell 1 _ rfl
          have xc2 : wr.cell? ⟨X, 2, none⟩ = some (vA) := HP.out.blk.cell 2 _ rfl
          have xc3 : wr.cell? ⟨X, 3, none⟩ = some (vE) := HP.out.blk.cell 3 _ rfl
          have xc4 : wr.cell? ⟨X, 4, none⟩ = some (vF) := HP.out.blk.cell 4 _ rfl
          have xf0 := HP.out.blk.free 0
          have xf1 := HP.out.blk.free 1
          have xf2 := HP.out.blk.free 2
          have xf3 := HP.out.blk.free 3
          have xf4 := HP.out.blk.free 4
          have xz := HP.out.blk.lt
          have HSR := Lib.hid HP.out.srcs
          obtain ⟨aD, cD, hvD, hcD, _⟩ := HP.out.srcs
          subst hvD
          obtain ⟨⟨aA, nA, cA, rfl⟩, ⟨aE, nE, cE, rfl⟩, ⟨aF, nF, cF, rfl⟩⟩ := HP.out.form
          cases hin : st.ins
          · have HBG := Lib.hid (fun w' (h : Kept wr w') => rbegin_all (.slice aD st.done.length cD) st.done y w' (HSR.out.kept h) (by omega) (by omega) hyl)
            unfold RbegPost at HBG
            have hbe := HKI.out.begin hin y
            rw [← hbe] at HBG
            obtain ⟨E, HEE⟩ : ∃ E, Hid (beginE st.keys st.done.length y = E) := ⟨_, rfl⟩
            rw [HEE.out] at HBG
            clear hbe
            go_wp2_with fail
            refine (HBG.out _ (Kept.refl _)).mono ?_
            rintro e w4 ⟨kb, tb, rfl, hkt, hk4⟩
            have HP4 := Lib.hid (HP.out.kept hk4)
            have HKT := Lib.hid hkt
            have HKR4 := Lib.hid (HKR.out.trans hk4)
            have HO4 := Lib.hid (HO.out.trans (Only.of_kept hk4))
            clear hk4 hkt c0 hg' xc0 xc1 xc2 xc3 xc4 xf0 xf1 xf2 xf3 xf4 xz
            have xf0 := HP4.out.blk.free 0
            have xf1 := HP4.out.blk.free 1
            have xf2 := HP4.out.blk.free 2
            have xf3 := HP4.out.blk.free 3
            have xf4 := HP4.out.blk.free 4
            have xc0 : w4.cell? ⟨X, 0, none⟩ = some (.string (bs kx)) := HP4.out.blk.cell 0 _ rfl
            have xc1 : w4.cell? ⟨X, 1, none⟩ = some (.string (bs tx)) := HP4.out.blk.cell 1 _ rfl
            have xc2 : w4.cell? ⟨X, 2, none⟩ = some (.slice aA nA cA) := HP4.out.blk.cell 2 _ rfl
            have xc3 : w4.cell? ⟨X, 3, none⟩ = some (.slice aE nE cE) := HP4.out.blk.cell 3 _ rfl
            have xc4 : w4.cell? ⟨X, 4, none⟩ = some (.slice aF nF cF) := HP4.out.blk.cell 4 _ rfl
            have xz := HP4.out.blk.lt
            by_cases hE : E = 0
            · subst hE
              rw [lineS_beg st y hin HEE.out] at HAT HLS HLC HLK
              rw [if_neg (by simp)] at HAT
              have HPN := Lib.hid (HP4.out.store (st' := ⟨st.done, st.keys ++ [keyL y], ⟨keyL y, typeL y, [], [], []⟩, true⟩) (k := kb) (t := tb) (uA := nilV) (uE := nilV) (uF := nilV) rfl ⟨⟨_, _, _, rfl⟩, ⟨_, _, _, rfl⟩, ⟨_, _, _, rfl⟩⟩ (fun _ => ⟨(HKT.out rfl).1, (HKT.out rfl).2, ⟨Perss.none_ _, Perss.none_ _, Prs.none_ _, Off.nil _ _, Off.nil _ _, Off.nil _ _⟩⟩))
              have HON := Lib.hid (HO4.out.trans ((set5_only w4 X kb tb nilV nilV nilV).mono (fun i _ q => .inl q)))
              have HKN : Hid (Kept w (set5 w4 X kb tb nilV nilV nilV)) := kept_set (kept_set (kept_set (kept_set (kept_set HKR4.out _ _ _ (by omega)) _ _ _ (by omega)) _ _ _ (by omega)) _ _ _ (by omega)) _ _ _ (by omega)
              go_wp2_with fail
              exact ⟨⟨k + 1, ⟨st.done, st.keys ++ [keyL y], ⟨keyL y, typeL y, [], [], []⟩, true⟩, ds, kb, tb, nilV, nilV, nilV, by omega, by go_num, rfl, by simp only; omega, HPN, HLS, Lib.hid (by first | exact HLK.out rfl | exact HLK.out trivial), Lib.hid (HRUN.out.trans HAT.out), HON, HKN⟩, by simp [intOf]; omega⟩
            · have hE' : (E == 0) = false := by simpa using hE
              have hE2 : (E != 0) = true := by simpa using hE
              rw [lineS_err st y hin (by rw [HEE.out]; exact hE)] at HAT
              simp only [HEE.out] at HAT
              rw [if_pos hE] at HAT
              rw [HRUN.out, HAT.out] at HR
              go_wp2_with fail
              go_ret3
              exact ⟨_, by rw [HR.out]; go_num, by rw [HR.out]; exact Srcs.none_ _, kept_set (kept_set (kept_set (kept_set (kept_set HKR4.out _ _ _ (by omega)) _ _ _ (by omega)) _ _ _ (by omega)) _ _ _ (by omega)) _ _ _ (by omega)⟩
          · obtain ⟨hk1, hk2, hx2⟩ := HP.out.src hin
            subst hk1 hk2
            by_cases hq : y = [125]
            · subst hq
              have HFT := Lib.hid (rfield_any st.src.key st.src.type (.slice aA nA cA) (.slice aE nE cE) (.slice aF nF cF) st.src.fields [116, 105, 116, 108, 101] wr hx2.f (by have := HSM.out.2.2; omega))
              unfold FieldPost at HFT
              rw [field_has] at HFT
              generalize (fieldL st.src.fields [116, 105, 116, 108, 101]).getD [] = fv at *
              go_wp2_with fail
              refine HFT.out.mono ?_
              rintro e w4 ⟨rfl, hk4⟩
              have HP4 := Lib.hid (HP.out.kept hk4)
              have HKR4 := Lib.hid (HKR.out.trans hk4)
              have HO4 := Lib.hid (HO.out.trans (Only.of_kept hk4))
              clear hk4 c0 hg' xc0 xc1 xc2 xc3 xc4 xf0 xf1 xf2 xf3 xf4 xz HFT
              have xc0 : w4.cell? ⟨X, 0, none⟩ = some (.string (bs st.src.key)) := HP4.out.blk.cell 0 _ rfl
              have xc1 : w4.cell? ⟨X, 1, none⟩ = some (.string (bs st.src.type)) := HP4.out.blk.cell 1 _ rfl
              have xc2 : w4.cell? ⟨X, 2, none⟩ = some (.slice aA nA cA) := HP4.out.blk.cell 2 _ rfl
              have xc3 : w4.cell? ⟨X, 3, none⟩ = some (.slice aE nE cE) := HP4.out.blk.cell 3 _ rfl
              have xc4 : w4.cell? ⟨X, 4, none⟩ = some (.slice aF nF cF) := HP4.out.blk.cell 4 _ rfl
              have xz := HP4.out.blk.lt
              have HOW := Lib.hid (HP4.out.own.alloc (.cells #[.string (bs st.src.key), .string (bs st.src.type), .slice aA nA cA, .slice aE nE cE, .slice aF nF cF] 40))
              have hdl2 : ds.length ≤ k := by have h := HP4.out.done; have h2 := congrArg List.length h; simp only [List.length_map] at h2; omega
              have hBw : B ≤ w4.heap.size := HP4.out.le
              have hXB : X < B := HP4.out.lt
              clear HSM
              cases ht : hasB st.src.fields [116, 105, 116, 108, 101]
              · rw [lineS_none st hin ht] at HAT
                simp only at HAT
                rw [if_pos (by decide)] at HAT
                rw [HRUN.out, HAT.out] at HR
                clear HLS HLC HLK HAT HRUN
                go_wp2_with (at_builtin; refine wpList_append_lies _ rfl _ _ 23 rfl B 40 i0 _ 5 104 Tryz.underlying23 hi hz0 hz1 hz2 rfl (by decide) _ ds.length (doneC ds) rfl HOW.out ⟨w4.heap.size, 0, none⟩ 1 1 [.string (bs st.src.key), .string (bs st.src.type), .slice aA nA cA, .slice aE nE cE, .slice aF nF cF] rfl rfl (new_cells _ #[.string (bs st.src.key), .string (bs st.src.type), .slice aA nA cA, .slice aE nE cE, .slice aF nF cF] _ _ (by simp)) (by simp [Value.oneCell']) (by omega) (by unfold maxLen; omega) (by omega) (by simp; omega) (w4.heap.size + 1) (by simp) ?_)
                intro g5 cap5 w5 hown5 hgrow5 hat5 hlt5
                have HK5 : Hid (Kept w w5) := (HKR4.out.trans (kept_alloc _ _)).trans' ((grown_below HOW.out hgrow5 (by simp; omega)).mono (by omega))
                clear hown5 hgrow5 hat5 hlt5
                go_wp2_with fail
                go_ret3
                exact ⟨_, by rw [HR.out]; go_num, by rw [HR.out]; exact Srcs.none_ _, HK5.out⟩
              · rw [lineS_done st hin ht] at HAT HLS HLC HLK
                simp only at HAT HLS HLC
                rw [if_neg (by simp)] at HAT
                go_wp2_with (at_builtin; refine wpList_append_lies _ rfl _ _ 23 rfl B 40 i0 _ 5 104 Tryz.underlying23 hi hz0 hz1 hz2 rfl (by decide) _ ds.length (doneC ds) rfl HOW.out ⟨w4.heap.size, 0, none⟩ 1 1 [.string (bs st.src.key), .string (bs st.src.type), .slice aA nA cA, .slice aE nE cE, .slice aF nF cF] rfl rfl (new_cells _ #[.string (bs st.src.key), .string (bs st.src.type), .slice aA nA cA, .slice aE nE cE, .slice aF nF cF] _ _ (by simp)) (by simp [Value.oneCell']) (by omega) (by unfold maxLen; omega) (by omega) (by simp; omega) (w4.heap.size + 1) (by simp) ?_)
                intro g5 cap5 w5 hown5 hgrow5 hat5 hlt5
                have HK5 : Hid (Kept w w5) := (HKR4.out.trans (kept_alloc _ _)).trans' ((grown_below HOW.out hgrow5 (by simp; omega)).mono (by omega))
                have HO5 := Lib.hid ((HO4.out.trans (Only.of_kept (kept_alloc _ _))).trans ((Only.grown hgrow5).mono (fun i _ q => .inr (HOW.out.lt i q.symm).1)))
                have HP5 := Lib.hid (HP4.out.push hin (kept_alloc _ _) hgrow5 hown5 (by rcases hat5 with q | q; exact .inl q; exact .inr (by omega)))
                clear hown5 hgrow5 hat5 hlt5
                go_wp2_with fail
                go_roundw
                case rel => exact ⟨k + 1, ⟨st.done ++ [st.src], st.keys, zeroS, false⟩, ds ++ [⟨st.src, _, _, _⟩], _, _, _, _, _, by omega, by go_num, rfl, by simp; omega, HP5, HLS, Lib.hid (by first | exact HLK.out rfl | exact HLK.out trivial), Lib.hid (HRUN.out.trans HAT.out), HO5, HK5⟩
                case measure => simp [intOf]; omega
            · have hq' : (y == [125]) = false := by simpa using hq
              obtain ⟨_, _, hva, _, _⟩ := hx2.a
              obtain ⟨rfl, rfl, rfl⟩ := Value.slice.inj hva
              obtain ⟨_, _, hve, _, _⟩ := hx2.e
              obtain ⟨rfl, rfl, rfl⟩ := Value.slice.inj hve
              obtain ⟨_, _, hvf, _, _⟩ := hx2.f
              obtain ⟨rfl, rfl, rfl⟩ := Value.slice.inj hvf
              clear hva hve hvf
              have HIN := Lib.hid (rinside_any st.src aA aE aF cA cE cF y wr (by omega) ⟨hx2.a, hx2.e, hx2.f⟩ HSM.out)
              unfold RinPost at HIN
              have HAK := Lib.hid (addS_key st.src y)
              rw [lineS_add st y hin hq] at HAT HLS HLC HLK
              generalize addS st.src y = A at *
              obtain ⟨E, s'⟩ := A
              simp only at HIN HAT HLS HLC HLK HAK
              go_wp2_with fail
              refine HIN.out.mono ?_
              rintro e w4 ⟨ki, ti, a1, a2, a3, n1, n2, n3, c1, c2, c3, rfl, hin4, hk4⟩
              have HP4 := Lib.hid (HP.out.kept hk4)
              have HI4 := Lib.hid hin4
              have HX4 := Lib.hid (hx2.kept hk4)
              have HKR4 := Lib.hid (HKR.out.trans hk4)
              have HO4 := Lib.hid (HO.out.trans (Only.of_kept hk4))
              have hsz4 : wr.heap.size ≤ w4.heap.size := hk4.size
              have hBw : B ≤ wr.heap.size := HP.out.le
              have hXB : X < B := HP.out.lt
              have HNE := Lib.hid HP.out.ne
              clear hk4 hin4 c0 hg' xc0 xc1 xc2 xc3 xc4 xf0 xf1 xf2 xf3 xf4 xz HIN
              have xc0 : w4.cell? ⟨X, 0, none⟩ = some (.string (bs st.src.key)) := HP4.out.blk.cell 0 _ rfl
              have xc1 : w4.cell? ⟨X, 1, none⟩ = some (.string (bs st.src.type)) := HP4.out.blk.cell 1 _ rfl
              have xc2 : w4.cell? ⟨X, 2, none⟩ = some (.slice aA st.src.author.length cA) := HP4.out.blk.cell 2 _ rfl
              have xc3 : w4.cell? ⟨X, 3, none⟩ = some (.slice aE st.src.editor.length cE) := HP4.out.blk.cell 3 _ rfl
              have xc4 : w4.cell? ⟨X, 4, none⟩ = some (.slice aF st.src.fields.length cF) := HP4.out.blk.cell 4 _ rfl
              have xf0 := HP4.out.blk.free 0
              have xf1 := HP4.out.blk.free 1
              have xf2 := HP4.out.blk.free 2
              have xf3 := HP4.out.blk.free 3
              have xf4 := HP4.out.blk.free 4
              have xz := HP4.out.blk.lt
              by_cases hE : E = 0
              · subst hE
                rw [if_neg (by simp)] at HAT
                obtain ⟨hki, hti, hpa, hpe, hpf, hfa, hfe, hff⟩ := HI4.out rfl
                have hoff : ∀ v u, (v = u ∨ Fresh wr.heap.size v) → Off X (.slice aD st.done.length cD) u → Off X (.slice aD st.done.length cD) v := by
                  intro v u h1 h2
                  rcases h1 with rfl | h1
                  · exact h2
                  · exact Off.fresh h1 (by omega) (fun g q => (HNE.out g q).2)
                have HPN := Lib.hid (HP4.out.store (st' := ⟨st.done, st.keys, s', true⟩) (k := ki) (t := ti) (uA := .slice a1 n1 c1) (uE := .slice a2 n2 c2) (uF := .slice a3 n3 c3) rfl ⟨⟨_, _, _, rfl⟩, ⟨_, _, _, rfl⟩, ⟨_, _, _, rfl⟩⟩ (fun _ => ⟨hki.trans HAK.out.1.symm, hti.trans HAK.out.2.symm, ⟨hpa, hpe, hpf, hoff _ _ hfa HX4.out.oa, hoff _ _ hfe HX4.out.oe, hoff _ _ hff HX4.out.of⟩⟩))
                have HON := Lib.hid (HO4.out.trans ((set5_only w4 X ki ti (.slice a1 n1 c1) (.slice a2 n2 c2) (.slice a3 n3 c3)).mono (fun i _ q => .inl q)))
                have HKN : Hid (Kept w (set5 w4 X ki ti (.slice a1 n1 c1) (.slice a2 n2 c2) (.slice a3 n3 c3))) := kept_set (kept_set (kept_set (kept_set (kept_set HKR4.out _ _ _ (by omega)) _ _ _ (by omega)) _ _ _ (by omega)) _ _ _ (by omega)) _ _ _ (by omega)
                have HST : Hid ({ st with src := s' } = (⟨st.done, st.keys, s', true⟩ : ASt)) := by show _ = _; rw [← hin]
                rw [HST.out] at HAT
                try rw [HST.out] at HLS
                try rw [HST.out] at HLK
                clear hpa hpe hpf hfa hfe hff hoff hki hti
                go_wp2_with fail
                exact ⟨⟨k + 1, ⟨st.done, st.keys, s', true⟩, ds, ki, ti, _, _, _, by omega, by go_num, rfl, by simp only; omega, HPN, HLS, Lib.hid (by first | exact HLK.out rfl | exact HLK.out trivial), Lib.hid (HRUN.out.trans HAT.out), HON, HKN⟩, by simp [intOf]; omega⟩
              · have hE' : (E == 0) = false := by simpa using hE
                have hE2 : (E != 0) = true := by simpa using hE
                rw [if_pos hE] at HAT
                rw [HRUN.out, HAT.out] at HR
                go_wp2_with fail
                go_ret3
                exact ⟨_, by rw [HR.out]; go_num, by rw [HR.out]; exact Srcs.none_ _, kept_set (kept_set (kept_set (kept_set (kept_set HKR4.out _ _ _ (by omega)) _ _ _ (by omega)) _ _ _ (by omega)) _ _ _ (by omega)) _ _ _ (by omega)⟩
      · obtain rfl : k = ls.length := by omega
        rw [HRUN.out, List.drop_length] at HR
        have HSR := Lib.hid HP.out.srcs
        obtain ⟨aD, cD, hvD, hcD, _⟩ := HP.out.srcs
        subst hvD
        simp only [runB] at HR
        cases hin : st.ins
        · rw [hin, if_neg (by simp)] at HR
          go_wp2_with fail
          go_ret3
          exact ⟨_, by rw [HR.out]; rfl, by rw [HR.out]; exact HSR.out, HKR.out⟩
        · rw [hin, if_pos rfl] at HR
          go_wp2_with fail
          go_ret3
          exact ⟨_, by rw [HR.out]; go_num, by rw [HR.out]; exact Srcs.none_ _, HKR.out⟩
end Go.Proofs.YteflhlbgbgamnaaGreatDoor

/- lines.Join. Conditions: lengths. -/
set_option linter.all false
namespace Go.Proofs.YteflhlbgbgamnaaGreatDoor
open Go.RowKit

/-- Lines, each followed by a line feed. -/
def joinLn (xs : List Bs) : Bs := xs.flatMap fun x => x ++ [10]
theorem joinLn_snoc (xs : List Bs) (k : Nat) (x : Bs) (h : xs[k]? = some x) : joinLn (xs.take (k + 1)) = joinLn (xs.take k) ++ x ++ [10] := by
  obtain ⟨hk, rfl⟩ := List.getElem?_eq_some_iff.1 h
  unfold joinLn
  rw [List.take_succ_eq_append_getElem hk, List.flatMap_append]
  simp only [List.flatMap_cons, List.flatMap_nil, List.append_nil, List.append_assoc]
theorem joinLn_le (xs : List Bs) (k : Nat) : (joinLn (xs.take k)).length ≤ (joinLn xs).length := by
  unfold joinLn
  conv => rhs; rw [← List.take_append_drop k xs]
  rw [List.flatMap_append, List.length_append]; omega
theorem byteCells_app (a b : Bs) : Lib.byteCells (a ++ b) = Lib.byteCells a ++ Lib.byteCells b := by simp [Lib.byteCells]

set_option maxRecDepth 100000 in
set_option maxHeartbeats 1600000 in
theorem ljoin_any (v : Value) (xs : List Bs) (w : World) (hv : Strs w v xs) (hN : xs.length ≤ 1100000) (hl : (joinLn xs).length ≤ 1000000000000) :
    Calls Tryz.prog 65 #[v] w fun e w' => e = .returned (.string (bs (joinLn xs))) ∧ Kept w w' := by
  have HV := Lib.hid hv
  obtain ⟨a, c, rfl, hc, h3⟩ := hv
  clear h3
  go_enter Tryz.func65, Tryz.ntmps65
  go_wp2_with fail
  simp only [mk_bs]
  go_loopw [8] (fun i wr => ∃ k : Nat, k ≤ xs.length ∧ i = .int .i64 k ∧ Lib.IsBuilder 122 5 w.heap.size w.heap.size (Lib.byteCells (joinLn (xs.take k))) wr ∧ Kept w wr) (fun i _ => xs.length - (intOf i).toNat)
  case atStart =>
    refine ⟨0, Nat.zero_le _, rfl, .inl ⟨Nat.le_refl _, .slice none 0 0, ?_, World.ownsRow_nil _ _ _ _, by simp [Value.ownBlock]⟩, kept_alloc _ _⟩
    exact heap_alloc_new w _
  case round =>
    obtain ⟨k, hk, rfl, hB, hkr⟩ := hrel
    have HB := Lib.hid hB
    have HR := Lib.hid hkr
    clear hB
    by_cases hlt : k < xs.length
    · obtain ⟨x, hx⟩ : ∃ x, xs[k]? = some x := ⟨_, List.getElem?_eq_getElem hlt⟩
      obtain ⟨a', c', hv', hc', h3⟩ := HV.out.kept hkr
      obtain ⟨rfl, hdead, rfl⟩ := Value.slice.inj hv'
      clear hdead hc'
      obtain ⟨g, o, rfl, hg, hcc⟩ := h3 (by omega)
      have c0 := hcc k x hx
      have HN := Lib.hid (joinLn_snoc xs k x hx)
      have hle := joinLn_le xs k
      have hle2 := joinLn_le xs (k + 1)
      rw [HN.out] at hle2
      simp only [List.length_append, List.length_cons, List.length_nil] at hle2
      have hsz := hkr.size
      clear hkr hcc h3 hv' hx
      generalize joinLn (xs.take k) = jk at *
      go_wp2_with fail
      refine (bld_string w.heap.size w.heap.size _ x _ HB.out (by rw [Lib.byteCells_length]; omega) hsz).mono ?_
      rintro e w1 ⟨rfl, hb1, hbe1⟩
      have HB1 : Hid (Lib.IsBuilder 122 5 w.heap.size w.heap.size (Lib.byteCells jk ++ Lib.byteCells x) w1) := .inr hb1
      have HR1 := Lib.hid (HR.out.trans' hbe1)
      have hsz1 := HR1.out.size
      clear hb1 hbe1 c0 hg
      go_wp2_with fail
      refine (bld_byte w.heap.size w.heap.size _ 10 _ HB1.out (by rw [List.length_append, Lib.byteCells_length, Lib.byteCells_length]; omega) hsz1).mono ?_
      rintro e w2 ⟨rfl, hb2, hbe2⟩
      have HB2 : Hid (Lib.IsBuilder 122 5 w.heap.size w.heap.size (Lib.byteCells (jk ++ x ++ [10])) w2) := by
        refine .inr ?_
        rw [byteCells_app, byteCells_app]
        exact hb2
      have HR2 := Lib.hid (HR1.out.trans' hbe2)
      clear hb2 hbe2
      go_wp2_with fail
      go_roundw
      case rel => exact ⟨k + 1, by omega, by go_num, by rw [HN.out]; exact HB2.out, HR2.out⟩
      case measure => simp [intOf]; omega
    · have hsz := hkr.size
      rw [List.take_of_length_le (by omega)] at HB
      clear hkr
      obtain ⟨j, HJ⟩ : ∃ j, Hid (joinLn xs = j) := ⟨_, rfl⟩
      rw [HJ.out] at HB
      go_wp2_with fail
      refine (Tryz.Builder_String_any w.heap.size w.heap.size j _ HB.out hsz).mono ?_
      rintro e w1 ⟨rfl, hb1⟩
      have HR1 := Lib.hid (HR.out.trans' hb1)
      clear hb1
      go_wp2_with fail
      go_ret
      exact ⟨ret_bs HJ.out.symm, HR1.out⟩
end Go.Proofs.YteflhlbgbgamnaaGreatDoor
