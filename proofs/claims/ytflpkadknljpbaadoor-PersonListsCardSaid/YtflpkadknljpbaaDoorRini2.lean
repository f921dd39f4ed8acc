/- The reference's Initials and Inverted. Conditions: lengths. -/
import Derived.Test.YtflpkadknljpbaaDoorRini
set_option linter.all false
namespace Go.Proofs.YtflpkadknljpbaaDoor
open Go.RowKit

theorem pieces_mem (c : UInt8) (l x : Bs) (h : x ∈ piecesOf c l) : x ≠ [] ∧ x.length ≤ l.length := by
  unfold piecesOf at h
  obtain ⟨h1, h2⟩ := List.mem_filter.1 h
  refine ⟨by simpa [nonE] using h2, ?_⟩
  have hs : ∀ (xs : List Bs) (x : Bs), x ∈ xs → x.length + 1 ≤ (xs.map (fun x => x.length + 1)).sum := by
    intro xs
    induction xs with
    | nil => intro x h; cases h
    | cons a r ih =>
      intro x h
      simp only [List.map_cons, List.sum_cons]
      rcases List.mem_cons.1 h with rfl | h
      · omega
      · have := ih x h; omega
  have := hs _ x h1
  rw [splitC_sum] at this; omega
theorem pieces_count (c : UInt8) (l : Bs) : (piecesOf c l).length ≤ l.length + 1 := by
  unfold piecesOf
  have h1 := List.length_filter_le nonE (splitC c l)
  rw [splitC_length] at h1
  have h2 := List.count_le_length (l := l) (a := c)
  omega
theorem join_snoc2 (sep : Bs) (xs : List Bs) (x : Bs) : Lib.join (xs ++ [x]) sep = (if xs = [] then [] else Lib.join xs sep ++ sep) ++ x := by
  cases xs with
  | nil => simp [Lib.join_one]
  | cons a r =>
    rw [List.cons_append, Lib.join_cons, Lib.join_cons]
    simp [Lib.joinTail]
theorem join_max (sep : Bs) (m : Nat) (xs : List Bs) (h : ∀ x ∈ xs, x.length ≤ m) : (Lib.join xs sep).length ≤ xs.length * (m + sep.length) := by
  refine snoc_ind (P := fun xs => (∀ x ∈ xs, x.length ≤ m) → (Lib.join xs sep).length ≤ xs.length * (m + sep.length)) ?_ ?_ xs h
  · intro _; rw [Lib.join_nil]; simp
  · intro xs x ih hx
    have h1 := ih (fun y hy => hx y (by simp [hy]))
    have h2 := hx x (by simp)
    rw [join_snoc2, List.length_append, List.length_append, Nat.add_mul]
    simp only [List.length_cons, List.length_nil, Nat.zero_add, Nat.one_mul]
    split
    · simp; omega
    · rw [List.length_append]; omega
theorem pieceI_len (x : Bs) : (pieceI x).length ≤ 5 := by unfold pieceI; have := encL_len (dec (bs x) 0).1; simp; omega
theorem iniJ_len (ys : List Bs) : (Lib.join (ys.map pieceI) [45]).length ≤ 6 * ys.length := by
  have := join_max [45] 5 (ys.map pieceI) (fun x hx => by obtain ⟨y, _, rfl⟩ := List.mem_map.1 hx; exact pieceI_len y)
  simp at this; omega
theorem bulk_max (m : Nat) (xs : List Bs) (h : ∀ x ∈ xs, x.length ≤ m) : bulk xs ≤ xs.length * (m + 1) := by
  unfold bulk
  induction xs with
  | nil => simp
  | cons a r ih =>
    have h1 := ih (fun x hx => h x (by simp [hx]))
    have h2 := h a (by simp)
    simp only [List.map_cons, List.sum_cons, List.length_cons, Nat.add_mul, Nat.one_mul]; omega
theorem map_take2 (f : Bs → Bs) (ps : List Bs) (k : Nat) (q : Bs) (h : ps[k]? = some q) : (ps.take (k + 1)).map f = (ps.take k).map f ++ [f q] := by
  obtain ⟨hk, rfl⟩ := List.getElem?_eq_some_iff.1 h
  rw [List.take_succ_eq_append_getElem hk, List.map_append]; rfl

set_option maxRecDepth 100000 in
set_option maxHeartbeats 6400000 in
theorem rinitials_any (f g p s : Bs) (w : World) (hs : g.length ≤ 1000) : Calls Tryd.prog 23 #[persV f g p s] w fun e w' => e = .returned (.string (bs (initialsL g))) ∧ Kept w w' := by
  obtain ⟨i0', hi', hz0, hz1, hz2⟩ := info_parts Tryd.infoStr
  have HI : Hid (initialsL g = joinedL ((piecesOf 32 g).map iniW)) := rfl
  have HP := Lib.hid (fun w => pieces_any g 32 w (by omega))
  have HM : Hid (∀ x ∈ piecesOf 32 g, x.length ≤ 1000) := fun x hx => by have := (pieces_mem 32 g x hx).2; omega
  have hwl := pieces_count 32 g
  generalize piecesOf 32 g = ws at *
  go_enter Tryd.func23, Tryd.ntmps23
  go_wp2_with fail
  refine (HP.out _).mono ?_
  rintro e w1 ⟨vw, rfl, hst, hk1⟩
  have HK1 := Lib.hid ((kept_alloc w _).trans hk1)
  have HST := Lib.hid hst
  obtain ⟨aw, cw, rfl, hcw, _⟩ := hst
  clear hk1
  go_wp2_with fail
  go_loopw [3, 5] (fun v i wr => ∃ (k : Nat), k ≤ ws.length ∧ i = .int .i64 k ∧ wr.ownsRow w1.heap.size 9 1 v ((ws.take k).map iniW).length (strCells ((ws.take k).map iniW)) ∧ Kept w1 wr) (fun _ i _ => ws.length - (intOf i).toNat)
  case atStart => exact ⟨0, Nat.zero_le _, rfl, World.ownsRow_nil _ _ _ _, Kept.refl _⟩
  case round =>
    obtain ⟨k, hkl, rfl, hown, hkr⟩ := hrel
    by_cases hlt : k < ws.length
    · obtain ⟨x, hx⟩ : ∃ x, ws[k]? = some x := ⟨_, List.getElem?_eq_getElem hlt⟩
      obtain ⟨wo, rfl⟩ : ∃ wo : World, wo = wr := ⟨_, rfl⟩
      obtain ⟨a', c', hv', hc', h3⟩ := HST.out.kept hkr
      obtain ⟨rfl, hdead, rfl⟩ := Value.slice.inj hv'
      clear hdead
      obtain ⟨gg, o, rfl, hgg, hcc⟩ := h3 (by omega)
      have c0 := hcc k x hx
      have hxm := HM.out x (List.mem_of_getElem? hx)
      have HF := Lib.hid (map_take2 iniW ws k x hx)
      have hfl : ((ws.take k).map iniW).length ≤ k := by simp; omega
      have HPX := Lib.hid (fun w => pieces_any x 45 w (by omega))
      have HIX : Hid (iniW x = Lib.join ((piecesOf 45 x).map pieceI) [45]) := rfl
      have HMX : Hid (∀ y ∈ piecesOf 45 x, y ≠ [] ∧ y.length ≤ 1000) := fun y hy => by have := pieces_mem 45 x y hy; exact ⟨this.1, by omega⟩
      have hyl := pieces_count 45 x
      have HJL := Lib.hid (fun n => iniJ_len ((piecesOf 45 x).take n))
      generalize (ws.take k).map iniW = us at *
      generalize iniW x = ix at *
      generalize piecesOf 45 x = ys at *
      have hsz : w1.heap.size ≤ wo.heap.size := hkr.size
      have HR := Lib.hid hkr
      have HW := Lib.hid hown
      clear hkr hown hcc h3 hv' hc' hx
      go_wp2_with fail
      refine (HPX.out _).mono ?_
      rintro e w2 ⟨vy, rfl, hsy, hk2⟩
      have HSY := Lib.hid hsy
      have HR2 := Lib.hid (HR.out.trans hk2)
      have HW2 := Lib.hid (own_kept HW.out hk2)
      have hsz2 : w1.heap.size ≤ w2.heap.size := HR2.out.size
      obtain ⟨ay, cy, rfl, hcy, _⟩ := hsy
      clear hk2 c0 hgg hsz
      go_wp2_with fail
      simp only [mk_bs]
      go_loopw [6, 8] (fun v i wr => ∃ (j : Nat), j ≤ ys.length ∧ i = .int .i64 j ∧ v = .string (bs (Lib.join ((ys.take j).map pieceI) [45])) ∧ Kept w2 wr) (fun _ i _ => ys.length - (intOf i).toNat)
      case atStart => exact ⟨0, Nat.zero_le _, rfl, rfl, Kept.refl _⟩
      case round =>
        obtain ⟨j, hjl, rfl, rfl, hkr⟩ := hrel
        by_cases hj : j < ys.length
        · obtain ⟨y, hy⟩ : ∃ y, ys[j]? = some y := ⟨_, List.getElem?_eq_getElem hj⟩
          obtain ⟨a', c', hv', hc', h3⟩ := HSY.out.kept hkr
          obtain ⟨rfl, hdead, rfl⟩ := Value.slice.inj hv'
          clear hdead
          obtain ⟨gy, oy, rfl, hgy, hcc⟩ := h3 (by omega)
          have c0 := hcc j y hy
          obtain ⟨hyn, hym⟩ := HMX.out y (List.mem_of_getElem? hy)
          have hjb := HJL.out j
          have hjb : (Lib.join ((ys.take j).map pieceI) [45]).length ≤ 10000 := by rw [List.length_take] at hjb; omega
          have HJ : Hid (Lib.join ((ys.take (j + 1)).map pieceI) [45] = (if 0 < j then Lib.join ((ys.take j).map pieceI) [45] ++ [45] else Lib.join ((ys.take j).map pieceI) [45]) ++ (encL (dec (bs y) 0).1 ++ [46])) := by
            show _ = _
            rw [map_take2 pieceI ys j y hy, join_snoc2]
            have e : pieceI y = encL (dec (bs y) 0).1 ++ [46] := rfl
            rw [e]
            by_cases q : 0 < j
            · rw [if_pos q, if_neg]
              intro h
              have := congrArg List.length h
              rw [List.length_map, List.length_take, List.length_nil] at this; omega
            · obtain rfl : j = 0 := by omega
              simp [Lib.join_nil]
          have hv := dec_valid (bs y) 0
          have HN := Lib.hid (fun w => rnext_any y w (by omega) (by have := List.length_pos_iff.2 hyn; omega))
          generalize (dec (bs y) 0).2 = dn at *
          generalize (dec (bs y) 0).1 = dc at *
          have hel := encL_len dc
          obtain ⟨v0, v1, v2⟩ := hv
          generalize Lib.join ((ys.take j).map pieceI) [45] = js at *
          have HKR := Lib.hid hkr
          clear hkr hcc h3 hv' hc' hy hyn
          by_cases q : 0 < j
          · rw [if_pos q] at HJ
            have HA := Lib.hid (fun w => rappend_any (js ++ [45]) dc w (by simp; omega) v0 v1 v2)
            generalize hec : encL dc = ec at *
            clear hec v0 v1 v2
            go_wp2_with fail
            refine (HN.out _).mono ?_
            rintro e w3 ⟨rfl, hk3⟩
            have HK3 := Lib.hid (HKR.out.trans hk3)
            clear hk3 c0
            go_wp2_with fail
            refine (HA.out _).mono ?_
            rintro e w4 ⟨rfl, hk4⟩
            have HK4 := Lib.hid (HK3.out.trans hk4)
            clear hk4
            go_wp2_with fail
            go_roundw
            case rel => exact ⟨j + 1, by omega, by go_num, by first | (rw [HJ.out]; done) | (rw [HJ.out]; simp), HK4.out⟩
            case measure => simp [intOf]; omega
          · rw [if_neg q] at HJ
            have HA := Lib.hid (fun w => rappend_any js dc w (by omega) v0 v1 v2)
            generalize hec : encL dc = ec at *
            clear hec v0 v1 v2
            go_wp2_with fail
            refine (HN.out _).mono ?_
            rintro e w3 ⟨rfl, hk3⟩
            have HK3 := Lib.hid (HKR.out.trans hk3)
            clear hk3 c0
            go_wp2_with fail
            refine (HA.out _).mono ?_
            rintro e w4 ⟨rfl, hk4⟩
            have HK4 := Lib.hid (HK3.out.trans hk4)
            clear hk4
            go_wp2_with fail
            go_roundw
            case rel => exact ⟨j + 1, by omega, by go_num, by first | (rw [HJ.out]; done) | (rw [HJ.out]; simp), HK4.out⟩
            case measure => simp [intOf]; omega
        · rw [List.take_of_length_le (by omega)]
          have hjb := HJL.out ys.length
          rw [List.take_of_length_le (Nat.le_refl _)] at hjb
          rw [← HIX.out]
          rw [← HIX.out] at hjb
          have hown := own_kept HW2.out hkr
          have HR3 := Lib.hid (HR2.out.trans hkr)
          have hsz3 : w1.heap.size ≤ wr.heap.size := HR3.out.size
          clear hkr
          go_wp2_with (at_builtin; refine wpList_append_own _ rfl _ _ 40 rfl w1.heap.size 9 i0' (.string ⟨#[]⟩) 1 16 Tryd.underlying40 hi' hz0 hz1 hz2 rfl (by decide) _ _ _ rfl (hown.alloc _) ⟨wr.heap.size, 0, none⟩ 1 1 [.string (bs ix)] rfl rfl ?_ ?_ ?_ ?_ ?_ ?_)
          · exact new_cells _ #[.string (bs ix)] _ _ (by simp)
          · intro u hu; simp at hu; subst hu; rfl
          · unfold maxLen; omega
          · omega
          · simp; omega
          intro v' w3 hown2 hgrow _
          have HB2 := Lib.hid ((HR3.out.trans (kept_alloc wr _)).trans' (grown_below (hown.alloc _) hgrow (by simp; omega)))
          rw [← strCells_snoc] at hown2
          have HO := Lib.hid hown2
          clear hown2 hgrow hown
          go_wp2_with fail
          go_roundw
          case rel => exact ⟨k + 1, by omega, by go_num, by rw [HF.out]; simpa using HO.out, HB2.out⟩
          case measure => simp [intOf]; omega
    · have HW := Lib.hid (Strs.own hown)
      have HR := Lib.hid (HK1.out.trans hkr)
      rw [List.take_of_length_le (by omega)] at HW
      have hb : bulk (ws.map iniW) ≤ 100000000 := by
        have h1 : ∀ x ∈ ws.map iniW, x.length ≤ 6006 := by
          intro x hx
          obtain ⟨y, hy, rfl⟩ := List.mem_map.1 hx
          have a := iniJ_len (piecesOf 45 y)
          have b := pieces_count 45 y
          have c := HM.out y hy
          show (Lib.join ((piecesOf 45 y).map pieceI) [45]).length ≤ 6006
          omega
        have h2 := bulk_max 6006 (ws.map iniW) h1
        have h3 : (ws.map iniW).length ≤ 1001 := by simp; omega
        have := Nat.mul_le_mul_right 6007 h3
        omega
      clear hown hkr
      go_wp2_with fail
      refine (rjoined_any _ _ _ HW.out hb).mono ?_
      rintro e w2 ⟨rfl, rfl⟩
      go_wp2_with fail
      go_ret
      exact ⟨ret_bs HI.out.symm, HR.out⟩

set_option maxRecDepth 100000 in
set_option maxHeartbeats 3200000 in
theorem rinverted_any (f g p s : Bs) (i : Bool) (w : World) (hs : f.length + g.length + p.length + s.length ≤ 1000) :
    Calls Tryd.prog 25 #[persV f g p s, .bool i] w fun e w' => e = .returned (.string (bs (invL f g p s i))) ∧ Kept w w' := by
  have hbu : bulk [p, f] ≤ 1000002 := by simp [bulk]; omega
  have hsh := joinedL_le [p, f]
  have hin := initialsL_len g
  have HL : Hid (invL f g p s i = joinedL [p, f] ++ (if givenI g i = [] then [] else [44, 32] ++ givenI g i) ++ (if s = [] then [] else [44, 32] ++ s)) := rfl
  have hgl : (givenI g i).length ≤ 6000000 := by unfold givenI; split <;> omega
  have HS := Lib.hid (fun w => rshort_any f g p s w (by omega))
  have HI := Lib.hid (fun w => rinitials_any f g p s w (by omega))
  have HGI : Hid (givenI g i = if i then initialsL g else g) := rfl
  generalize joinedL [p, f] = sh at *
  generalize initialsL g = il at *
  generalize givenI g i = gv at *
  cases i
  · obtain rfl : gv = g := HGI.out
    clear HGI
    by_cases hg : gv = [] <;> by_cases hs' : s = []
    all_goals
      first | subst hg | (have hge : gv.isEmpty = false := by simpa using hg)
      first | subst hs' | (have hse : s.isEmpty = false := by simpa using hs')
      try simp only [List.length_nil, Nat.add_zero, Nat.zero_add] at hs
      go_enter Tryd.func25, Tryd.ntmps25
      go_wp2_with fail
      refine (HS.out _).mono ?_
      rintro e w1 ⟨rfl, hk1⟩
      obtain ⟨kc, kf⟩ := keep_cell hk1
      have hz : w.heap.size < w1.heap.size := by have := hk1.size; simp at this; omega
      have HK := Lib.hid ((kept_alloc w _).trans hk1)
      clear hk1
      go_wp2_with fail
      go_ret
      exact ⟨ret_bs (by rw [HL.out]; simp [*]), HK.out⟩
  · obtain rfl : gv = il := HGI.out
    clear HGI
    by_cases hg : gv = [] <;> by_cases hs' : s = []
    all_goals
      first | subst hg | (have hge : gv.isEmpty = false := by simpa using hg)
      first | subst hs' | (have hse : s.isEmpty = false := by simpa using hs')
      try simp only [List.length_nil, Nat.add_zero, Nat.zero_add] at hs
      go_enter Tryd.func25, Tryd.ntmps25
      go_wp2_with fail
      refine (HS.out _).mono ?_
      rintro e w1 ⟨rfl, hk1⟩
      obtain ⟨kc, kf⟩ := keep_cell hk1
      have hz : w.heap.size < w1.heap.size := by have := hk1.size; simp at this; omega
      have HK1 := Lib.hid hk1
      clear hk1
      go_wp2_with fail
      refine (HI.out _).mono ?_
      rintro e w2 ⟨rfl, hk2⟩
      have HK2 := Lib.hid (HK1.out.trans hk2)
      clear kc kf hk2 hz
      obtain ⟨kc, kf⟩ := keep_cell HK2.out
      have hz : w.heap.size < w2.heap.size := by have := HK2.out.size; simp at this; omega
      have HK := Lib.hid ((kept_alloc w _).trans HK2.out)
      go_wp2_with fail
      go_ret
      exact ⟨ret_bs (by rw [HL.out]; simp [*]), HK.out⟩
end Go.Proofs.YtflpkadknljpbaaDoor
