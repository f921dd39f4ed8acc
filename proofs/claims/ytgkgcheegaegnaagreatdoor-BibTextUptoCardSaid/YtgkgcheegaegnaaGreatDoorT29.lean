/- one and Check of publisherref30. Conditions: lengths. -/
import Derived.Test.YtgkgcheegaegnaaGreatDoorT28
import Derived.Test.YtgkgcheegaegnaaGreatDoorT26

set_option linter.all false
namespace Go.Proofs.YtgkgcheegaegnaaGreatDoor
open Go.RowKit

/-- A front part of a list of sources. -/
theorem Srcs.front {w : World} {a : Option Addr} {n c : Nat} {ss : List SrcT} (h : Srcs w (.slice a n c) ss) (k : Nat) (hk : k ≤ ss.length) (c' : Nat) (hc : k ≤ c') : Srcs w (.slice a k c') (ss.take k) := by
  obtain ⟨a', c2, hv, _, h3⟩ := h
  obtain ⟨rfl, _, _⟩ := Value.slice.inj hv
  refine ⟨a, c', by rw [List.length_take, Nat.min_eq_left hk], by rw [List.length_take]; omega, fun q => ?_⟩
  rw [List.length_take] at q
  obtain ⟨g, o, ha, hg, hc⟩ := h3 (by omega)
  refine ⟨g, o, ha, hg, fun j x hx => hc j x ?_⟩
  rw [List.getElem?_take] at hx
  split at hx
  · exact hx
  · cases hx
/-- The first error of a source that follows others. -/
def oneE (ks : List Bs) (s : SrcT) : Int := if nameB s.type = false ∨ nameB s.key = false then 6 else if ks.contains s.key = true then 7 else srcE s
theorem chkE_one (l : List SrcT) (k : Nat) (s : SrcT) (h : l[k]? = some s) : chkE ((l.take k).map (·.key)) (l.drop k) = if oneE ((l.take k).map (·.key)) s ≠ 0 then oneE ((l.take k).map (·.key)) s else chkE ((l.take (k + 1)).map (·.key)) (l.drop (k + 1)) := by
  rw [chkE_at l _ k s h]
  have e : (l.take (k + 1)).map (·.key) = (l.take k).map (·.key) ++ [s.key] := by
    obtain ⟨hk, rfl⟩ := List.getElem?_eq_some_iff.1 h
    rw [List.take_succ_eq_append_getElem hk, List.map_append]; rfl
  rw [e]
  unfold oneE
  split
  · rfl
  split
  · rfl
  · rfl
set_option maxRecDepth 100000 in
set_option maxHeartbeats 6400000 in
theorem rone_any (s : SrcT) (vA vE vF vB : Value) (ss : List SrcT) (w : World) (hA : Perss w vA s.author) (hE : Perss w vE s.editor) (hF : Prs w vF s.fields) (hB : Srcs w vB ss) (hsm : SmallS s) (hl : ss.length ≤ 1100000) :
    Calls Tryz.prog 37 #[srcV s.key s.type vA vE vF, vB] w fun e w' => e = .returned (.int .i64 (oneE (ss.map (·.key)) s)) ∧ Kept w w' := by
  have HR : Hid (oneE (ss.map (·.key)) s = if nameB s.type = false ∨ nameB s.key = false then 6 else if (findS ss s.key).isSome = true then 7 else srcE s) := by
    show _ = _
    rw [find_keys]; rfl
  have HS : Hid (srcE s = if (32 < s.author.length ∨ 32 < s.editor.length) ∨ 24 < s.fields.length then 3 else if persE s.author ≠ 0 then persE s.author else if persE s.editor ≠ 0 then persE s.editor else if fldE [] s.fields ≠ 0 then fldE [] s.fields else if hasB s.fields [116, 105, 116, 108, 101] = true then 0 else 8) := rfl
  obtain ⟨R, HRR⟩ : ∃ R, Hid (oneE (ss.map (·.key)) s = R) := ⟨_, rfl⟩
  rw [HRR.out] at HR ⊢
  clear HRR
  obtain ⟨m1, m2, m3, l1, l2, l3, l4, l5⟩ := hsm
  have HNT := Lib.hid (fun w => rname_any s.type w l5)
  have HNK := Lib.hid (fun w => rname_any s.key w l4)
  have HFD := Lib.hid (fun w' (h : Kept w w') => rfind_any vB ss s.key w' (hB.kept h) hl)
  have HPA := Lib.hid (fun w' (h : Kept w w') => rpersons_any vA s.author w' (hA.kept h) m1 l1)
  have HPE := Lib.hid (fun w' (h : Kept w w') => rpersons_any vE s.editor w' (hE.kept h) m2 l2)
  have HFF := Lib.hid (fun w' (h : Kept w w') => rfields_any vF s.fields w' (hF.kept h) m3 l3)
  have HFT := Lib.hid (fun w' (h : Kept w w') => rfield_any s.key s.type vA vE vF s.fields [116, 105, 116, 108, 101] w' (hF.kept h) l3)
  unfold FindPost at HFD
  unfold FieldPost at HFT
  rw [field_is] at HFT
  generalize (fieldL s.fields [116, 105, 116, 108, 101]).getD [] = fv at *
  obtain ⟨aA, cA, rfl, zA, zA'⟩ := hA
  obtain ⟨aE, cE, rfl, zE, zE'⟩ := hE
  obtain ⟨aF, cF, rfl, zF, zF'⟩ := hF
  obtain ⟨aB, cB, rfl, zB, zB'⟩ := hB
  clear zA zA' zE zE' zF zF' zB zB'
  have HBK := Lib.hid (Blk.new w 44 #[.string (bs s.key), .string (bs s.type), .slice aA s.author.length cA, .slice aE s.editor.length cE, .slice aF s.fields.length cF])
  have HK0 := Lib.hid (kept_alloc w (.cells #[.string (bs s.key), .string (bs s.type), .slice aA s.author.length cA, .slice aE s.editor.length cE, .slice aF s.fields.length cF] 44))
  generalize nameB s.type = n1 at *
  generalize nameB s.key = n2 at *
  generalize (findS ss s.key).isSome = fb at *
  generalize (findS ss s.key).getD zeroS = xs at *
  generalize persE s.author = EA at *
  generalize persE s.editor = EE at *
  generalize fldE [] s.fields = EF at *
  generalize hasB s.fields [116, 105, 116, 108, 101] = hb at *
  generalize srcE s = SE at *
  go_enter Tryz.func37, Tryz.ntmps37
  go_wp2_with fail
  generalize w.alloc (.cells #[.string (bs s.key), .string (bs s.type), .slice aA s.author.length cA, .slice aE s.editor.length cE, .slice aF s.fields.length cF] 44) = w0 at *
  generalize hBB : w.heap.size = B at *
  refine (HNT.out _).mono ?_
  rintro e w1 ⟨rfl, hk⟩
  have HK1 := Lib.hid (HK0.out.trans hk)
  have HB1 := Lib.hid (HBK.out.kept hk)
  clear hk HBK HK0
  have c0 : w1.cell? ⟨B, 0, none⟩ = some (.string (bs s.key)) := HB1.out.cell 0 _ rfl
  have z1 := HB1.out.lt
  cases n1
  · rw [if_pos (.inl rfl)] at HR
    go_wp2_with fail
    go_ret
    exact ⟨by rw [HR.out]; rfl, HK1.out⟩
  go_wp2_with fail
  refine (HNK.out _).mono ?_
  rintro e w2 ⟨rfl, hk⟩
  have HK2 := Lib.hid (HK1.out.trans hk)
  have HB2 := Lib.hid (HB1.out.kept hk)
  clear hk c0 z1 HB1 HK1
  have c0 : w2.cell? ⟨B, 0, none⟩ = some (.string (bs s.key)) := HB2.out.cell 0 _ rfl
  have z2 := HB2.out.lt
  cases n2
  · rw [if_pos (.inr rfl)] at HR
    go_wp2_with fail
    go_ret
    exact ⟨by rw [HR.out]; rfl, HK2.out⟩
  rw [if_neg (by simp)] at HR
  go_wp2_with fail
  refine (HFD.out _ HK2.out).mono ?_
  rintro e w3 ⟨uA, uE, uF, rfl, pA, pE, pF, hk⟩
  have HK3 := Lib.hid ((HK2.out.trans hk))
  have HB3 := Lib.hid (HB2.out.kept hk)
  clear hk c0 z2 HB2 HK2
  obtain ⟨bA, dA, rfl, y1, y2⟩ := pA
  obtain ⟨bE, dE, rfl, y3, y4⟩ := pE
  obtain ⟨bF, dF, rfl, y5, y6⟩ := pF
  clear y1 y2 y3 y4 y5 y6
  have hw4 := kept_alloc w3 (.cells #[.string (bs xs.key), .string (bs xs.type), .slice bA xs.author.length dA, .slice bE xs.editor.length dE, .slice bF xs.fields.length dF] 44)
  have HK4 := Lib.hid (HK3.out.trans hw4)
  have HB4 := Lib.hid (HB3.out.kept hw4)
  clear hw4
  cases fb
  case true =>
    rw [if_pos rfl] at HR
    go_wp2_with fail
    go_ret
    exact ⟨by rw [HR.out]; rfl, HK4.out⟩
  rw [if_neg (by simp), HS.out] at HR
  have c2 : w3.cell? ⟨B, 2, none⟩ = some (.slice aA s.author.length cA) := HB3.out.cell 2 _ rfl
  have c3 : w3.cell? ⟨B, 3, none⟩ = some (.slice aE s.editor.length cE) := HB3.out.cell 3 _ rfl
  have c4 : w3.cell? ⟨B, 4, none⟩ = some (.slice aF s.fields.length cF) := HB3.out.cell 4 _ rfl
  have z3 := HB3.out.lt
  by_cases q1 : 32 < s.author.length
  · rw [if_pos (.inl (.inl q1))] at HR
    go_wp2_with fail
    go_ret
    exact ⟨by rw [HR.out]; rfl, HK4.out⟩
  by_cases q2 : 32 < s.editor.length
  · rw [if_pos (.inl (.inr q2))] at HR
    go_wp2_with fail
    go_ret
    exact ⟨by rw [HR.out]; rfl, HK4.out⟩
  by_cases q3 : 24 < s.fields.length
  · rw [if_pos (.inr q3)] at HR
    go_wp2_with fail
    go_ret
    exact ⟨by rw [HR.out]; rfl, HK4.out⟩
  rw [if_neg (by omega)] at HR
  go_wp2_with fail
  refine (HPA.out _ HK4.out).mono ?_
  rintro e w5 ⟨rfl, hk⟩
  have HK5 := Lib.hid (HK4.out.trans hk)
  have HB5 := Lib.hid (HB4.out.kept hk)
  clear hk c2 c3 c4 z3
  by_cases hEA : EA = 0
  case neg =>
    rw [if_pos hEA] at HR
    go_wp2_with fail
    go_ret
    exact ⟨by rw [HR.out]; rfl, HK5.out⟩
  subst hEA
  rw [if_neg (by simp)] at HR
  have c3 : w5.cell? ⟨B, 3, none⟩ = some (.slice aE s.editor.length cE) := HB5.out.cell 3 _ rfl
  have z5 := HB5.out.lt
  go_wp2_with fail
  refine (HPE.out _ HK5.out).mono ?_
  rintro e w6 ⟨rfl, hk⟩
  have HK6 := Lib.hid (HK5.out.trans hk)
  have HB6 := Lib.hid (HB5.out.kept hk)
  clear hk c3 z5
  by_cases hEE : EE = 0
  case neg =>
    rw [if_pos hEE] at HR
    go_wp2_with fail
    go_ret
    exact ⟨by rw [HR.out]; rfl, HK6.out⟩
  subst hEE
  rw [if_neg (by simp)] at HR
  have c4 : w6.cell? ⟨B, 4, none⟩ = some (.slice aF s.fields.length cF) := HB6.out.cell 4 _ rfl
  have z6 := HB6.out.lt
  go_wp2_with fail
  refine (HFF.out _ HK6.out).mono ?_
  rintro e w7 ⟨rfl, hk⟩
  have HK7 := Lib.hid (HK6.out.trans hk)
  have HB7 := Lib.hid (HB6.out.kept hk)
  clear hk c4 z6
  by_cases hEF : EF = 0
  case neg =>
    rw [if_pos hEF] at HR
    go_wp2_with fail
    go_ret
    exact ⟨by rw [HR.out]; rfl, HK7.out⟩
  subst hEF
  rw [if_neg (by simp)] at HR
  have c0 : w7.cell? ⟨B, 0, none⟩ = some (.string (bs s.key)) := HB7.out.cell 0 _ rfl
  have c1 : w7.cell? ⟨B, 1, none⟩ = some (.string (bs s.type)) := HB7.out.cell 1 _ rfl
  have c2 : w7.cell? ⟨B, 2, none⟩ = some (.slice aA s.author.length cA) := HB7.out.cell 2 _ rfl
  have c3 : w7.cell? ⟨B, 3, none⟩ = some (.slice aE s.editor.length cE) := HB7.out.cell 3 _ rfl
  have c4 : w7.cell? ⟨B, 4, none⟩ = some (.slice aF s.fields.length cF) := HB7.out.cell 4 _ rfl
  have z7 := HB7.out.lt
  go_wp2_with fail
  refine (HFT.out _ HK7.out).mono ?_
  rintro e w8 ⟨rfl, hk⟩
  have HK8 := Lib.hid (HK7.out.trans hk)
  clear hk c0 c1 c2 c3 c4 z7
  cases hb
  · rw [if_neg (by simp)] at HR
    go_wp2_with fail
    go_ret
    exact ⟨by rw [HR.out]; rfl, HK8.out⟩
  · rw [if_pos rfl] at HR
    go_wp2_with fail
    go_ret
    exact ⟨by rw [HR.out]; rfl, HK8.out⟩
set_option maxRecDepth 100000 in
set_option maxHeartbeats 6400000 in
theorem rcheck_any (v : Value) (ss : List SrcT) (w : World) (hv : Srcs w v ss) (hs : ∀ s ∈ ss, SmallS s) (hl : ss.length ≤ 1100000) :
    Calls Tryz.prog 14 #[v] w fun e w' => e = .returned (.int .i64 (checkE ss)) ∧ Kept w w' := by
  have HV := Lib.hid hv
  have HR : Hid (checkE ss = if 256 < ss.length then 3 else chkE ((ss.take 0).map (·.key)) (ss.drop 0)) := rfl
  obtain ⟨R, HRR⟩ : ∃ R, Hid (checkE ss = R) := ⟨_, rfl⟩
  rw [HRR.out] at HR ⊢
  clear HRR
  obtain ⟨a, c, rfl, hc, hh⟩ := hv
  clear hh
  by_cases hlim : 256 < ss.length
  · rw [if_pos hlim] at HR
    go_enter Tryz.func14, Tryz.ntmps14
    go_wp2_with fail
    go_ret
    exact ⟨by rw [HR.out]; rfl, Kept.refl _⟩
  · rw [if_neg hlim] at HR
    have hlim' : ss.length ≤ 256 := by omega
    go_enter Tryz.func14, Tryz.ntmps14
    go_wp2_with fail
    go_loopw [11] (fun i wr => ∃ k : Nat, k ≤ ss.length ∧ i = .int .i64 k ∧ Hid (R = chkE ((ss.take k).map (·.key)) (ss.drop k)) ∧ Hid (Kept w wr)) (fun i _ => ss.length - (intOf i).toNat)
    case atStart => exact ⟨0, Nat.zero_le _, rfl, HR, Kept.refl _⟩
    case round =>
      obtain ⟨k, hk, rfl, HP, HKR⟩ := hrel
      by_cases hlt : k < ss.length
      · obtain ⟨s, hx⟩ : ∃ x, ss[k]? = some x := ⟨_, List.getElem?_eq_getElem hlt⟩
        have HSM := Lib.hid (hs s (List.mem_of_getElem? hx))
        have HAT := Lib.hid (chkE_one ss k s hx)
        rw [HAT.out] at HP
        obtain ⟨a', c', hv', hc', h3⟩ := HV.out
        obtain ⟨rfl, hdead, rfl⟩ := Value.slice.inj hv'
        clear hdead hc'
        obtain ⟨g, o, rfl, hg', hcc⟩ := h3 (by omega)
        obtain ⟨vA, vE, vF, t0, t1, t2, t3, t4, pA, pE, pF⟩ := hcc k s hx
        have d0 := (HKR.out.cell (p := ⟨g, _, none⟩) hg').trans t0
        have d1 := (HKR.out.cell (p := ⟨g, _, none⟩) hg').trans t1
        have d2 := (HKR.out.cell (p := ⟨g, _, none⟩) hg').trans t2
        have d3 := (HKR.out.cell (p := ⟨g, _, none⟩) hg').trans t3
        have d4 := (HKR.out.cell (p := ⟨g, _, none⟩) hg').trans t4
        clear t0 t1 t2 t3 t4
        have hg2 : g < wr.heap.size := Nat.lt_of_lt_of_le hg' HKR.out.size
        have HON := Lib.hid (fun w' (h : Kept w w') => rone_any s vA vE vF (.slice (some ⟨g, o, none⟩) k c) (ss.take k) w' (pA.kept h) (pE.kept h) (pF.kept h) ((HV.out.kept h).front k hk c (by omega)) HSM.out (by rw [List.length_take]; omega))
        obtain ⟨aA, cA, rfl, zA, zA'⟩ := pA
        obtain ⟨aE, cE, rfl, zE, zE'⟩ := pE
        obtain ⟨aF, cF, rfl, zF, zF'⟩ := pF
        clear zA zA' zE zE' zF zF'
        have HBK := Lib.hid (Blk.new wr 44 #[.string (bs s.key), .string (bs s.type), .slice aA s.author.length cA, .slice aE s.editor.length cE, .slice aF s.fields.length cF])
        have HK1 := Lib.hid (HKR.out.trans (kept_alloc wr (.cells #[.string (bs s.key), .string (bs s.type), .slice aA s.author.length cA, .slice aE s.editor.length cE, .slice aF s.fields.length cF] 44)))
        clear hcc h3 hv' hx HAT
        generalize oneE ((ss.take k).map (·.key)) s = E at *
        go_wp2_with fail
        generalize wr.alloc (.cells #[.string (bs s.key), .string (bs s.type), .slice aA s.author.length cA, .slice aE s.editor.length cE, .slice aF s.fields.length cF] 44) = w1 at *
        generalize wr.heap.size = B at *
        clear d0 d1 d2 d3 d4 hg' hg2
        have HC : Hid (∀ w', Kept w1 w' → (w'.cell? ⟨B, 0, none⟩ = some (.string (bs s.key)) ∧ w'.cell? ⟨B, 1, none⟩ = some (.string (bs s.type)) ∧ w'.cell? ⟨B, 2, none⟩ = some (.slice aA s.author.length cA) ∧ w'.cell? ⟨B, 3, none⟩ = some (.slice aE s.editor.length cE) ∧ w'.cell? ⟨B, 4, none⟩ = some (.slice aF s.fields.length cF)) ∧ B < w'.heap.size ∧ Kept w1 w') := fun w' h => ⟨⟨(HBK.out.kept h).cell 0 _ rfl, (HBK.out.kept h).cell 1 _ rfl, (HBK.out.kept h).cell 2 _ rfl, (HBK.out.kept h).cell 3 _ rfl, (HBK.out.kept h).cell 4 _ rfl⟩, (HBK.out.kept h).lt, h⟩
        have hKd : Kept w1 w1.drew := kept_drewN w1 1
        have HKD := Lib.hid (HK1.out.trans hKd)
        have hkc : k ≤ c := by omega
        have i1 : (0 : Int) ≤ (k : Int) := by omega
        have i2 : (k : Int) ≤ (c : Int) := by omega
        go_region_held3 (fun w' => (w'.cell? ⟨B, 0, none⟩ = some (.string (bs s.key)) ∧ w'.cell? ⟨B, 1, none⟩ = some (.string (bs s.type)) ∧ w'.cell? ⟨B, 2, none⟩ = some (.slice aA s.author.length cA) ∧ w'.cell? ⟨B, 3, none⟩ = some (.slice aE s.editor.length cE) ∧ w'.cell? ⟨B, 4, none⟩ = some (.slice aF s.fields.length cF)) ∧ B < w'.heap.size ∧ Kept w1 w')
          ((refine HC.out _ ?_; first | assumption | exact Kept.refl _))
          (first | (go_at_call 37; refine (HON.out _ HKD.out).mono ?_; rintro e w2 ⟨rfl, hk2⟩; have k2 := Kept.trans hKd hk2; clear hk2))
        all_goals
          have HK2 := Lib.hid (HK1.out.trans k2)
          clear k2 HC hKd i1 i2
          by_cases hE : E = 0
          · subst hE
            rw [if_neg (by simp)] at HP
            go_wp2_with fail
            go_roundw
            case rel => exact ⟨k + 1, by omega, by go_num, HP, HK2⟩
            case measure => simp [intOf]; omega
          · rw [if_pos hE] at HP
            go_wp2_with fail
            go_ret
            exact ⟨by rw [HP.out]; rfl, HK2.out⟩
      · obtain rfl : k = ss.length := by omega
        rw [List.drop_length] at HP
        have HZ : Hid (R = 0) := HP.out
        go_wp2_with fail
        go_ret
        exact ⟨by rw [HZ.out]; rfl, HKR.out⟩
end Go.Proofs.YtgkgcheegaegnaaGreatDoor

/- Plain words on a bibliography without errors. No condition. -/
set_option linter.all false
namespace Go.Proofs.YtgkgcheegaegnaaGreatDoor
open Go.RowKit

theorem persE_all (ps : List P4) (h : persE ps = 0) : ∀ p ∈ ps, textE p.1 p.2.1 p.2.2.1 p.2.2.2 = 0 := by
  induction ps with
  | nil => intro p hp; cases hp
  | cons q ps ih =>
    unfold persE at h
    split at h
    · rename_i hq; exact absurd h hq
    · rename_i hq
      intro p hp
      rcases List.mem_cons.1 hp with rfl | hp
      · simpa using hq
      · exact ih h p hp
theorem fldE_all (fs : List Pr) : ∀ ds, fldE ds fs = 0 → ∀ k f, fs[k]? = some f → fldE1 (ds ++ fs.take k) f = 0 := by
  induction fs with
  | nil => intro ds _ k f hf; cases hf
  | cons g fs ih =>
    intro ds h k f hf
    unfold fldE at h
    split at h
    · rename_i hq; exact absurd h hq
    · rename_i hq
      cases k with
      | zero => cases hf; simpa using hq
      | succ k =>
        have := ih _ h k f (by simpa using hf)
        simpa using this
theorem fldE1_parts (ds : List Pr) (f : Pr) (h : fldE1 ds f = 0) : nameB f.1 = true ∧ f.1 ≠ kAuthor ∧ f.1 ≠ kEditor ∧ f.2 ≠ [] ∧ lineB f.2 = true ∧ trimL f.2 = f.2 ∧ hasB ds f.1 = false := by
  unfold fldE1 at h
  split at h
  · cases h
  rename_i h1
  split at h
  · cases h
  rename_i h2
  split at h
  · cases h
  rename_i h3
  refine ⟨?_, fun q => h1 (.inl (.inr q)), fun q => h1 (.inr q), fun q => h2 (.inl (.inl (.inl q))), ?_, ?_, by simpa using h3⟩
  · cases hn : nameB f.1
    · exact absurd (.inl (.inl hn)) h1
    · rfl
  · unfold lineB
    cases hv : validB (bs f.2)
    · exact absurd (.inl (.inl (.inr hv))) h2
    · cases hc : f.2.contains 10
      · rfl
      · exact absurd (.inl (.inr hc)) h2
  · exact Classical.byContradiction fun q => h2 (.inr q)
theorem chkE_all (ss : List SrcT) : ∀ ks, chkE ks ss = 0 → ∀ k s, ss[k]? = some s → nameB s.type = true ∧ nameB s.key = true ∧ (ks ++ (ss.take k).map (·.key)).contains s.key = false ∧ srcE s = 0 := by
  induction ss with
  | nil => intro ks _ k s hs; cases hs
  | cons t ss ih =>
    intro ks h k s hs
    unfold chkE at h
    split at h
    · cases h
    rename_i h1
    split at h
    · cases h
    rename_i h2
    split at h
    · rename_i h3; exact absurd h h3
    rename_i h3
    cases k with
    | zero =>
      cases hs
      refine ⟨?_, ?_, by simpa using h2, by simpa using h3⟩
      · cases hn : nameB t.type
        · exact absurd (.inl hn) h1
        · rfl
      · cases hn : nameB t.key
        · exact absurd (.inr hn) h1
        · rfl
    | succ k =>
      have := ih _ h k s (by simpa using hs)
      simpa using this
theorem srcE_parts (s : SrcT) (h : srcE s = 0) : s.author.length ≤ 32 ∧ s.editor.length ≤ 32 ∧ s.fields.length ≤ 24 ∧ persE s.author = 0 ∧ persE s.editor = 0 ∧ fldE [] s.fields = 0 ∧ hasB s.fields kTitle = true := by
  unfold srcE at h
  split at h
  · cases h
  rename_i h1
  split at h
  · rename_i h2; exact absurd h h2
  rename_i h2
  split at h
  · rename_i h3; exact absurd h h3
  rename_i h3
  split at h
  · rename_i h4; exact absurd h h4
  rename_i h4
  split at h
  · rename_i h5
    exact ⟨by omega, by omega, by omega, by simpa using h2, by simpa using h3, by simpa using h4, h5⟩
  · cases h
end Go.Proofs.YtgkgcheegaegnaaGreatDoor
