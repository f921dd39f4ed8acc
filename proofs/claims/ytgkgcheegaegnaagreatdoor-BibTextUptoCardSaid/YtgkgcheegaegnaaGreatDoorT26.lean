/- bib.Check. Conditions: lengths. -/
import Derived.Test.YtgkgcheegaegnaaGreatDoorT25
import Derived.Test.YtgkgcheegaegnaaGreatDoorT20

set_option linter.all false
namespace Go.Proofs.YtgkgcheegaegnaaGreatDoor
open Go.RowKit

def chkE : List Bs → List SrcT → Int
  | _, [] => 0
  | ks, s :: ss => if nameB s.type = false ∨ nameB s.key = false then 6 else if ks.contains s.key = true then 7 else if srcE s ≠ 0 then srcE s else chkE (ks ++ [s.key]) ss
def checkE (l : List SrcT) : Int := if 256 < l.length then 3 else chkE [] l
theorem chkE_at (l : List SrcT) (ks : List Bs) (k : Nat) (s : SrcT) (h : l[k]? = some s) : chkE ks (l.drop k) = if nameB s.type = false ∨ nameB s.key = false then 6 else if ks.contains s.key = true then 7 else if srcE s ≠ 0 then srcE s else chkE (ks ++ [s.key]) (l.drop (k + 1)) := by
  obtain ⟨hk, rfl⟩ := List.getElem?_eq_some_iff.1 h
  rw [List.drop_eq_getElem_cons hk]; rfl
theorem Srcs.kept {w w' : World} {v : Value} {ss : List SrcT} (h : Srcs w v ss) (k : Kept w w') : Srcs w' v ss := by
  obtain ⟨a, c, hv, hc, h3⟩ := h
  refine ⟨a, c, hv, hc, fun q => ?_⟩
  obtain ⟨g, o, ha, hg, hcell⟩ := h3 q
  refine ⟨g, o, ha, Nat.lt_of_lt_of_le hg k.size, fun j x hx => ?_⟩
  obtain ⟨vA, vE, vF, c0, c1, c2, c3, c4, h1, h2, h3⟩ := hcell j x hx
  exact ⟨vA, vE, vF, (k.cell (p := ⟨g, _, none⟩) hg).trans c0, (k.cell (p := ⟨g, _, none⟩) hg).trans c1, (k.cell (p := ⟨g, _, none⟩) hg).trans c2, (k.cell (p := ⟨g, _, none⟩) hg).trans c3, (k.cell (p := ⟨g, _, none⟩) hg).trans c4, h1.kept k, h2.kept k, h3.kept k⟩
theorem MapK.kept {w w' : World} {m : Nat} {ks : List Bs} (h : MapK w m ks) (k : Kept w w') : MapK w' m ks := h.only (Only.of_kept (S := fun _ => False) k) (fun q => q)
/-- Lengths that every walk over a source bears. -/
def SmallS (s : SrcT) : Prop := SmallP s.author ∧ SmallP s.editor ∧ SmallF s.fields ∧ s.author.length ≤ 1100000 ∧ s.editor.length ≤ 1100000 ∧ s.fields.length ≤ 1100000 ∧ s.key.length ≤ 1100000 ∧ s.type.length ≤ 1100000
set_option maxRecDepth 100000 in
set_option maxHeartbeats 6400000 in
theorem check_any (v : Value) (ss : List SrcT) (w : World) (hg : Gnd w) (hv : Srcs w v ss) (hs : ∀ s ∈ ss, SmallS s) (hl : ss.length ≤ 1100000) :
    Calls Tryz.prog 13 #[v] w fun e w' => e = .returned (.int .i64 (checkE ss)) ∧ Kept w w' := by
  have HV := Lib.hid hv
  have HR : Hid (checkE ss = if 256 < ss.length then 3 else chkE [] ss) := rfl
  obtain ⟨R, HRR⟩ : ∃ R, Hid (checkE ss = R) := ⟨_, rfl⟩
  rw [HRR.out] at HR ⊢
  clear HRR
  obtain ⟨a, c, rfl, hc, hh⟩ := hv
  clear hh
  have mk := fun w => run_makeMap (P := Tryz.prog) 53 w
  by_cases hlim : 256 < ss.length
  · rw [if_pos hlim] at HR
    go_enter Tryz.func13, Tryz.ntmps13
    go_wp2_with fail
    go_ret
    exact ⟨by rw [HR.out]; rfl, Kept.refl _⟩
  · rw [if_neg hlim] at HR
    have hlim' : ss.length ≤ 256 := by omega
    go_enter Tryz.func13, Tryz.ntmps13
    go_wp2_with fail
    go_loopw [13] (fun i wr => ∃ (k : Nat) (ks : List Bs), k ≤ ss.length ∧ i = .int .i64 k ∧ Hid (R = chkE ks (ss.drop k)) ∧ Hid (MapK wr w.heap.size ks) ∧ Hid (Kept w wr)) (fun i _ => ss.length - (intOf i).toNat)
    case atStart => exact ⟨0, [], Nat.zero_le _, rfl, HR, heap_alloc_new w _, kept_alloc _ _⟩
    case round =>
      obtain ⟨k, ks, hk, rfl, HP, HM, HKR⟩ := hrel
      by_cases hlt : k < ss.length
      · obtain ⟨s, hx⟩ : ∃ x, ss[k]? = some x := ⟨_, List.getElem?_eq_getElem hlt⟩
        have HSM := Lib.hid (hs s (List.mem_of_getElem? hx))
        have HAT := Lib.hid (chkE_at ss ks k s hx)
        rw [HAT.out] at HP
        obtain ⟨a', c', hv', hc', h3⟩ := HV.out
        obtain ⟨rfl, hdead, rfl⟩ := Value.slice.inj hv'
        clear hdead hc'
        obtain ⟨g, o, rfl, hg', hcc⟩ := h3 (by omega)
        obtain ⟨vA, vE, vF, t0, t1, t2, t3, t4, pA, pE, pF⟩ := hcc k s hx
        have d0 := (HKR.out.cell (p := ⟨g, _, none⟩) hg').trans t0
        have d1 := (HKR.out.cell (p := ⟨g, _, none⟩) hg').trans t1
        have d2 := (HKR.out.cell (p := ⟨g, _, none⟩) hg').trans t2
        have d3 := (HKR.out.cell (p := ⟨g, _, none⟩) hg').trans t3
        have d4 := (HKR.out.cell (p := ⟨g, _, none⟩) hg').trans t4
        clear t0 t1 t2 t3 t4
        have hg2 : g < wr.heap.size := Nat.lt_of_lt_of_le hg' HKR.out.size
        have HPS := Lib.hid (And.intro pA (And.intro pE pF))
        obtain ⟨aA, cA, rfl, zA, zA'⟩ := pA
        obtain ⟨aE, cE, rfl, zE, zE'⟩ := pE
        obtain ⟨aF, cF, rfl, zF, zF'⟩ := pF
        clear zA zA' zE zE' zF zF'
        have HBK := Lib.hid (Blk.new wr 44 #[.string (bs s.key), .string (bs s.type), .slice aA s.author.length cA, .slice aE s.editor.length cE, .slice aF s.fields.length cF])
        have HNT := Lib.hid (fun w => isName_any s.type w HSM.out.2.2.2.2.2.2.2)
        have HNK := Lib.hid (fun w => isName_any s.key w HSM.out.2.2.2.2.2.2.1)
        have HCS := Lib.hid (fun w hg pA pE pF => cksrc_any s (.slice aA s.author.length cA) (.slice aE s.editor.length cE) (.slice aF s.fields.length cF) w hg pA pE pF HSM.out.1 HSM.out.2.1 HSM.out.2.2.1 HSM.out.2.2.2.1 HSM.out.2.2.2.2.1 HSM.out.2.2.2.2.2.1)
        clear hcc h3 hv' hx HAT
        go_wp2_with fail
        refine (HNT.out _).mono ?_
        rintro e w3 ⟨rfl, hk3⟩
        have e0 : w3.cell? ⟨wr.heap.size, 0, none⟩ = some (.string (bs s.key)) := (HBK.out.kept hk3).cell 0 _ rfl
        have HBK3 := Lib.hid (HBK.out.kept hk3)
        have HK3 := Lib.hid ((kept_alloc wr _).trans hk3)
        have z3 := HBK3.out.lt
        clear hk3 d0 d1 d2 d3 d4 hg' hg2
        cases hnt : nameB s.type
        · rw [if_pos (.inl hnt)] at HP
          go_wp2_with fail
          go_ret
          exact ⟨by rw [HP.out]; rfl, HKR.out.trans HK3.out⟩
        go_wp2_with fail
        refine (HNK.out _).mono ?_
        rintro e w4 ⟨rfl, hk4⟩
        have f0 : w4.cell? ⟨wr.heap.size, 0, none⟩ = some (.string (bs s.key)) := (HBK3.out.kept hk4).cell 0 _ rfl
        have HBK4 := Lib.hid (HBK3.out.kept hk4)
        have HK4 := Lib.hid (HK3.out.trans hk4)
        have HM4 := Lib.hid (HM.out.kept HK4.out)
        clear hk4 e0
        cases hnk : nameB s.key
        · rw [if_pos (.inr hnk)] at HP
          go_wp2_with fail
          go_ret
          exact ⟨by rw [HP.out]; rfl, HKR.out.trans HK4.out⟩
        rw [if_neg (by simp [hnt, hnk])] at HP
        have lk := lookK w4 w.heap.size ks s.key HM4.out
        cases hct : ks.contains s.key
        case true =>
          rw [if_pos hct] at HP
          rw [hct] at lk
          go_wp2_with fail
          go_ret
          exact ⟨by rw [HP.out]; rfl, HKR.out.trans HK4.out⟩
        rw [if_neg (by rw [hct]; simp)] at HP
        rw [hct] at lk
        have ins := insK w4 w.heap.size ks s.key HM4.out (by simpa using hct)
        have hne : wr.heap.size ≠ w.heap.size := by have := HM.out.lt; omega
        have HO5 := Lib.hid (putK_only w4 w.heap.size (ks ++ [s.key]))
        have HM5 := Lib.hid (putK_map w4 w.heap.size (ks ++ [s.key]) HM4.out.lt)
        have HB5 : Hid (Blk (putK w4 w.heap.size (ks ++ [s.key])) wr.heap.size 44 #[.string (bs s.key), .string (bs s.type), .slice aA s.author.length cA, .slice aE s.editor.length cE, .slice aF s.fields.length cF]) := (HO5.out.block _ HBK4.out.lt hne).trans HBK4.out
        have HK5 : Hid (Kept w (putK w4 w.heap.size (ks ++ [s.key]))) := (HKR.out.trans HK4.out).trans' (HO5.out.below (HKR.out.trans HK4.out).size (fun i h => by omega))
        generalize putK w4 w.heap.size (ks ++ [s.key]) = w5 at *
        have g0 := HB5.out.cell 0 _ rfl
        have g1 := HB5.out.cell 1 _ rfl
        have g2 := HB5.out.cell 2 _ rfl
        have g3 := HB5.out.cell 3 _ rfl
        have g4 := HB5.out.cell 4 _ rfl
        go_wp2_with fail
        refine (HCS.out _ (hg.kept HK5.out) (HPS.out.1.kept HK5.out) (HPS.out.2.1.kept HK5.out) (HPS.out.2.2.kept HK5.out)).mono ?_
        rintro e w6 ⟨rfl, hk6⟩
        have HK6 := Lib.hid (HK5.out.trans hk6)
        have HM6 := Lib.hid (HM5.out.kept hk6)
        clear hk6 g0 g1 g2 g3 g4
        generalize srcE s = E at *
        by_cases hE : E = 0
        · subst hE
          rw [if_neg (by simp)] at HP
          go_wp2_with fail
          go_roundw
          case rel => exact ⟨k + 1, ks ++ [s.key], by omega, by go_num, HP, HM6, HK6⟩
          case measure => simp [intOf]; omega
        · rw [if_pos hE] at HP
          go_wp2_with fail
          go_ret
          exact ⟨by rw [HP.out]; rfl, HK6.out⟩
      · obtain rfl : k = ss.length := by omega
        rw [List.drop_length] at HP
        have HZ : Hid (R = 0) := HP.out
        go_wp2_with fail
        go_ret
        exact ⟨by rw [HZ.out]; rfl, HKR.out⟩
end Go.Proofs.YtgkgcheegaegnaaGreatDoor

/- bib.Find and ref30.Find. Conditions: lengths. -/
set_option linter.all false
namespace Go.Proofs.YtgkgcheegaegnaaGreatDoor
open Go.RowKit

def findS (ss : List SrcT) (k : Bs) : Option SrcT := ss.find? fun s => s.key == k
theorem findS_at (ss : List SrcT) (k : Bs) (n : Nat) (s : SrcT) (hx : ss[n]? = some s) (hb : ∀ x ∈ ss.take n, (x.key == k) = false) (hk : (s.key == k) = true) : findS ss k = some s := by
  obtain ⟨hk', rfl⟩ := List.getElem?_eq_some_iff.1 hx
  unfold findS
  have e : ss = ss.take n ++ ss[n] :: ss.drop (n + 1) := by rw [← List.drop_eq_getElem_cons hk', List.take_append_drop]
  conv => lhs; rw [e]
  rw [List.find?_append, List.find?_eq_none.2 (by intro x h; rw [hb x h]; simp), List.find?_cons_of_pos (by simpa using hk)]
  rfl
theorem findS_none (ss : List SrcT) (k : Bs) (hb : ∀ x ∈ ss, (x.key == k) = false) : findS ss k = none := by
  unfold findS
  rw [List.find?_eq_none]
  intro x h; rw [hb x h]; simp
theorem kept5 {w wr : World} {v0 v1 v2 v3 v4 : Value} (h : Kept w wr) : Kept w (((((wr.setCell ⟨w.heap.size, 0, none⟩ v0).setCell ⟨w.heap.size, 1, none⟩ v1).setCell ⟨w.heap.size, 2, none⟩ v2).setCell ⟨w.heap.size, 3, none⟩ v3).setCell ⟨w.heap.size, 4, none⟩ v4) :=
  kept_set (kept_set (kept_set (kept_set (kept_set h _ _ _ (Nat.le_refl _)) _ _ _ (Nat.le_refl _)) _ _ _ (Nat.le_refl _)) _ _ _ (Nat.le_refl _)) _ _ _ (Nat.le_refl _)
theorem only_set {S : Nat → Prop} (w : World) (g o : Nat) (v : Value) (h : S g) : Only S w (w.setCell ⟨g, o, none⟩ v) := (Only.setCell g o v).mono (fun i _ e => e ▸ h)
theorem only5 {S : Nat → Prop} {w : World} {B : Nat} {v0 v1 v2 v3 v4 : Value} (h : S B) : Only S w (((((w.setCell ⟨B, 0, none⟩ v0).setCell ⟨B, 1, none⟩ v1).setCell ⟨B, 2, none⟩ v2).setCell ⟨B, 3, none⟩ v3).setCell ⟨B, 4, none⟩ v4) :=
  ((((only_set _ _ _ _ h).trans (only_set _ _ _ _ h)).trans (only_set _ _ _ _ h)).trans (only_set _ _ _ _ h)).trans (only_set _ _ _ _ h)
def FindPost (o : Option SrcT) (w : World) (e : Ending) (w' : World) : Prop :=
  ∃ vA vE vF, e = .returned (.tuple #[srcV (o.getD zeroS).key (o.getD zeroS).type vA vE vF, .bool o.isSome]) ∧ Perss w' vA (o.getD zeroS).author ∧ Perss w' vE (o.getD zeroS).editor ∧ Prs w' vF (o.getD zeroS).fields ∧ Kept w w'
set_option maxRecDepth 100000 in
set_option maxHeartbeats 3200000 in
theorem rfind_any (v : Value) (ss : List SrcT) (k : Bs) (w : World) (hv : Srcs w v ss) (hl : ss.length ≤ 1100000) :
    Calls Tryz.prog 54 #[v, .string (bs k)] w (FindPost (findS ss k) w) := by
  have HV := Lib.hid hv
  have HA := Lib.hid (findS_at ss k)
  have HNO := Lib.hid (findS_none ss k)
  obtain ⟨o, HO⟩ : ∃ o, Hid (findS ss k = o) := ⟨_, rfl⟩
  rw [HO.out] at HA HNO ⊢
  obtain ⟨a, c, rfl, hc, h3⟩ := hv
  clear h3
  unfold FindPost
  go_enter Tryz.func54, Tryz.ntmps54
  go_wp2_with fail
  go_loopw [10] (fun i wr => ∃ n : Nat, n ≤ ss.length ∧ i = .int .i64 n ∧ Hid (∀ x ∈ ss.take n, (x.key == k) = false) ∧ Hid (Blk wr w.heap.size 44 #[.string (bs []), .string (bs []), .slice none 0 0, .slice none 0 0, .slice none 0 0]) ∧ Hid (Kept w wr)) (fun i _ => ss.length - (intOf i).toNat)
  case atStart => exact ⟨0, Nat.zero_le _, rfl, fun x h => by simp at h, Blk.new w _ _, kept_alloc _ _⟩
  case round =>
    obtain ⟨n, hn, rfl, HN, HB, HKR⟩ := hrel
    have b0 : wr.cell? ⟨w.heap.size, 0, none⟩ = some (.string (bs [])) := HB.out.cell 0 _ rfl
    have b1 : wr.cell? ⟨w.heap.size, 1, none⟩ = some (.string (bs [])) := HB.out.cell 1 _ rfl
    have b2 : wr.cell? ⟨w.heap.size, 2, none⟩ = some (.slice none 0 0) := HB.out.cell 2 _ rfl
    have b3 : wr.cell? ⟨w.heap.size, 3, none⟩ = some (.slice none 0 0) := HB.out.cell 3 _ rfl
    have b4 : wr.cell? ⟨w.heap.size, 4, none⟩ = some (.slice none 0 0) := HB.out.cell 4 _ rfl
    have f0 := HB.out.free 0
    have f1 := HB.out.free 1
    have f2 := HB.out.free 2
    have f3 := HB.out.free 3
    have f4 := HB.out.free 4
    have z0 := HB.out.lt
    by_cases hlt : n < ss.length
    · obtain ⟨s, hx⟩ : ∃ x, ss[n]? = some x := ⟨_, List.getElem?_eq_getElem hlt⟩
      obtain ⟨a', c', hv', hc', h3⟩ := HV.out
      obtain ⟨rfl, hdead, rfl⟩ := Value.slice.inj hv'
      clear hdead hc'
      obtain ⟨g, o2, rfl, hg', hcc⟩ := h3 (by omega)
      obtain ⟨vA, vE, vF, t0, t1, t2, t3, t4, pA, pE, pF⟩ := hcc n s hx
      have d0 := (HKR.out.cell (p := ⟨g, _, none⟩) hg').trans t0
      have d1 := (HKR.out.cell (p := ⟨g, _, none⟩) hg').trans t1
      have d2 := (HKR.out.cell (p := ⟨g, _, none⟩) hg').trans t2
      have d3 := (HKR.out.cell (p := ⟨g, _, none⟩) hg').trans t3
      have d4 := (HKR.out.cell (p := ⟨g, _, none⟩) hg').trans t4
      clear t0 t1 t2 t3 t4
      have hg2 : g < wr.heap.size := Nat.lt_of_lt_of_le hg' HKR.out.size
      have HPS := Lib.hid (And.intro pA (And.intro pE pF))
      have HAT := Lib.hid (HA.out n s hx HN.out)
      obtain ⟨aA, cA, rfl, zA, zA'⟩ := pA
      obtain ⟨aE, cE, rfl, zE, zE'⟩ := pE
      obtain ⟨aF, cF, rfl, zF, zF'⟩ := pF
      clear zA zA' zE zE' zF zF'
      cases hxk : (s.key == k)
      · have HS : Hid (∀ x ∈ ss.take (n + 1), (x.key == k) = false) := by
          intro x hxm
          obtain ⟨hk', rfl⟩ := List.getElem?_eq_some_iff.1 hx
          rw [List.take_succ_eq_append_getElem hk'] at hxm
          rcases List.mem_append.1 hxm with h | h
          · exact HN.out x h
          · simp at h; subst h; exact hxk
        clear hcc h3 hv' hx HN HAT b0 b1 b2 b3 b4 f0 f1 f2 f3 f4 z0
        go_wp2_with fail
        go_roundw
        case rel => exact ⟨n + 1, by omega, by go_num, HS.out, HB.out.kept (kept_alloc _ _), HKR.out.trans (kept_alloc _ _)⟩
        case measure => simp [intOf]; omega
      · have HO2 := Lib.hid (HAT.out hxk)
        clear hcc h3 hv' hx HN HAT
        obtain rfl : s.key = k := by simpa using hxk
        clear hxk
        go_wp2_with fail
        have hK := (kept5 HKR.out (v0 := .string (bs s.key)) (v1 := .string (bs s.type)) (v2 := .slice aA s.author.length cA) (v3 := .slice aE s.editor.length cE) (v4 := .slice aF s.fields.length cF)).trans (kept_alloc _ (.cells #[.string (bs s.key), .string (bs s.type), .slice aA s.author.length cA, .slice aE s.editor.length cE, .slice aF s.fields.length cF] 44))
        refine bodyPost_ret (v := .tuple #[srcV s.key s.type (.slice aA s.author.length cA) (.slice aE s.editor.length cE) (.slice aF s.fields.length cF), .bool true]) (by simp [results, Tryz.results54, go_sem, b0, b1, b2, b3, b4, z0]) rfl ?_
        refine ⟨.slice aA s.author.length cA, .slice aE s.editor.length cE, .slice aF s.fields.length cF, by rw [HO2.out]; rfl, ?_, ?_, ?_, hK⟩
        · rw [HO2.out]; exact HPS.out.1.kept hK
        · rw [HO2.out]; exact HPS.out.2.1.kept hK
        · rw [HO2.out]; exact HPS.out.2.2.kept hK
    · have HE := Lib.hid (HNO.out (by have h := HN.out; rw [List.take_of_length_le (by omega)] at h; exact h))
      go_wp2_with fail
      have hK := kept5 HKR.out (v0 := .string (bs [])) (v1 := .string (bs [])) (v2 := .slice none 0 0) (v3 := .slice none 0 0) (v4 := .slice none 0 0)
      refine bodyPost_ret (v := .tuple #[srcV [] [] (.slice none 0 0) (.slice none 0 0) (.slice none 0 0), .bool false]) (by simp [results, Tryz.results54, go_sem, b0, b1, b2, b3, b4, z0]) rfl ?_
      refine ⟨.slice none 0 0, .slice none 0 0, .slice none 0 0, by rw [HE.out]; rfl, ?_, ?_, ?_, hK⟩
      · rw [HE.out]; exact Perss.none_ _
      · rw [HE.out]; exact Perss.none_ _
      · rw [HE.out]; exact Prs.none_ _
set_option maxRecDepth 100000 in
set_option maxHeartbeats 3200000 in
theorem find_any (v : Value) (ss : List SrcT) (k : Bs) (w : World) (hv : Srcs w v ss) (hl : ss.length ≤ 1100000) (hL : ∀ s ∈ ss, s.author.length ≤ 1100000 ∧ s.editor.length ≤ 1100000 ∧ s.fields.length ≤ 1100000) :
    Calls Tryz.prog 20 #[v, .string (bs k)] w (FindPost (findS ss k) w) := by
  have HV := Lib.hid hv
  have HA := Lib.hid (findS_at ss k)
  have HNO := Lib.hid (findS_none ss k)
  obtain ⟨o, HO⟩ : ∃ o, Hid (findS ss k = o) := ⟨_, rfl⟩
  rw [HO.out] at HA HNO ⊢
  obtain ⟨a, c, rfl, hc, h3⟩ := hv
  clear h3
  unfold FindPost
  go_enter Tryz.func20, Tryz.ntmps20
  go_wp2_with fail
  go_loopw [10] (fun i wr => ∃ n : Nat, n ≤ ss.length ∧ i = .int .i64 n ∧ Hid (∀ x ∈ ss.take n, (x.key == k) = false) ∧ Hid (Blk wr w.heap.size 44 #[.string (bs []), .string (bs []), .slice none 0 0, .slice none 0 0, .slice none 0 0]) ∧ Hid (Kept w wr)) (fun i _ => ss.length - (intOf i).toNat)
  case atStart => exact ⟨0, Nat.zero_le _, rfl, fun x h => by simp at h, Blk.new w _ _, kept_alloc _ _⟩
  case round =>
    obtain ⟨n, hn, rfl, HN, HB, HKR⟩ := hrel
    have b0 : wr.cell? ⟨w.heap.size, 0, none⟩ = some (.string (bs [])) := HB.out.cell 0 _ rfl
    have b1 : wr.cell? ⟨w.heap.size, 1, none⟩ = some (.string (bs [])) := HB.out.cell 1 _ rfl
    have b2 : wr.cell? ⟨w.heap.size, 2, none⟩ = some (.slice none 0 0) := HB.out.cell 2 _ rfl
    have b3 : wr.cell? ⟨w.heap.size, 3, none⟩ = some (.slice none 0 0) := HB.out.cell 3 _ rfl
    have b4 : wr.cell? ⟨w.heap.size, 4, none⟩ = some (.slice none 0 0) := HB.out.cell 4 _ rfl
    have f0 := HB.out.free 0
    have f1 := HB.out.free 1
    have f2 := HB.out.free 2
    have f3 := HB.out.free 3
    have f4 := HB.out.free 4
    have z0 := HB.out.lt
    by_cases hlt : n < ss.length
    · obtain ⟨s, hx⟩ : ∃ x, ss[n]? = some x := ⟨_, List.getElem?_eq_getElem hlt⟩
      obtain ⟨a', c', hv', hc', h3⟩ := HV.out
      obtain ⟨rfl, hdead, rfl⟩ := Value.slice.inj hv'
      clear hdead hc'
      obtain ⟨g, o2, rfl, hg', hcc⟩ := h3 (by omega)
      obtain ⟨vA, vE, vF, t0, t1, t2, t3, t4, pA, pE, pF⟩ := hcc n s hx
      have d0 := (HKR.out.cell (p := ⟨g, _, none⟩) hg').trans t0
      have d1 := (HKR.out.cell (p := ⟨g, _, none⟩) hg').trans t1
      have d2 := (HKR.out.cell (p := ⟨g, _, none⟩) hg').trans t2
      have d3 := (HKR.out.cell (p := ⟨g, _, none⟩) hg').trans t3
      have d4 := (HKR.out.cell (p := ⟨g, _, none⟩) hg').trans t4
      clear t0 t1 t2 t3 t4
      have hg2 : g < wr.heap.size := Nat.lt_of_lt_of_le hg' HKR.out.size
      have HL := Lib.hid (hL s (List.mem_of_getElem? hx))
      have HPS := Lib.hid (And.intro pA (And.intro pE pF))
      have HAT := Lib.hid (HA.out n s hx HN.out)
      obtain ⟨aA, cA, rfl, zA, zA'⟩ := pA
      obtain ⟨aE, cE, rfl, zE, zE'⟩ := pE
      obtain ⟨aF, cF, rfl, zF, zF'⟩ := pF
      clear zA zA' zE zE' zF zF'
      cases hxk : (s.key == k)
      · have HS : Hid (∀ x ∈ ss.take (n + 1), (x.key == k) = false) := by
          intro x hxm
          obtain ⟨hk', rfl⟩ := List.getElem?_eq_some_iff.1 hx
          rw [List.take_succ_eq_append_getElem hk'] at hxm
          rcases List.mem_append.1 hxm with h | h
          · exact HN.out x h
          · simp at h; subst h; exact hxk
        clear hcc h3 hv' hx HN HAT b0 b1 b2 b3 b4 f0 f1 f2 f3 f4 z0
        go_wp2_with fail
        go_roundw
        case rel => exact ⟨n + 1, by omega, by go_num, HS.out, HB.out.kept (kept_alloc _ _), HKR.out.trans (kept_alloc _ _)⟩
        case measure => simp [intOf]; omega
      · have HO2 := Lib.hid (HAT.out hxk)
        clear hcc h3 hv' hx HN HAT
        obtain rfl : s.key = k := by simpa using hxk
        clear hxk
        have HCA := Lib.hid (fun w h => cloneP_any (.slice aA s.author.length cA) s.author w h HL.out.1)
        have HCE := Lib.hid (fun w h => cloneP_any (.slice aE s.editor.length cE) s.editor w h HL.out.2.1)
        have HCF := Lib.hid (fun w h => cloneF_any (.slice aF s.fields.length cF) s.fields w h HL.out.2.2)
        have HBK := Lib.hid (Blk.new wr 44 #[.string (bs s.key), .string (bs s.type), .slice aA s.author.length cA, .slice aE s.editor.length cE, .slice aF s.fields.length cF])
        have HK0 := Lib.hid (HKR.out.trans (kept_alloc wr (.cells #[.string (bs s.key), .string (bs s.type), .slice aA s.author.length cA, .slice aE s.editor.length cE, .slice aF s.fields.length cF] 44)))
        have hwr : w.heap.size ≤ wr.heap.size := HKR.out.size
        go_wp2_with fail
        refine (HCA.out _ (HPS.out.1.kept HK0.out)).mono ?_
        rintro e w1 ⟨v1, rfl, hp1, hf1, hk1⟩
        have HP1 := Lib.hid hp1
        have HF1 : Hid (Fresh (wr.heap.size + 1) v1) := by show Fresh _ _; simpa using hf1
        have HB1 := Lib.hid (HBK.out.kept hk1)
        have HR1 := Lib.hid ((HB.out.kept (kept_alloc wr _)).kept hk1)
        have HK1 := Lib.hid (HK0.out.trans hk1)
        have HKA := Lib.hid (kept_set HK1.out wr.heap.size 2 v1 hwr)
        obtain ⟨a1, c1, rfl, y1, y2⟩ := hp1
        clear hk1 hf1 y1 y2 b0 b1 b2 b3 b4 f0 f1 f2 f3 f4 z0 d0 d1 d2 d3 d4 hg2 hg'
        have e2 : w1.cell? ⟨wr.heap.size, 2, none⟩ = some (.slice aA s.author.length cA) := HB1.out.cell 2 _ rfl
        have e3 : w1.cell? ⟨wr.heap.size, 3, none⟩ = some (.slice aE s.editor.length cE) := HB1.out.cell 3 _ rfl
        have f2 := HB1.out.free 2
        have z1 := HB1.out.lt
        go_wp2_with fail
        refine (HCE.out _ (HPS.out.2.1.kept HKA.out)).mono ?_
        rintro e w2 ⟨v2, rfl, hp2, hf2, hk2⟩
        have HP2 := Lib.hid hp2
        have HF2 : Hid (Fresh (wr.heap.size + 1) v2) := by
          show Fresh _ _
          intro g' o' n' c' he hn
          have := hf2 g' o' n' c' he hn
          rw [size_setCell] at this; omega
        have HB2 : Hid (Blk w2 wr.heap.size 44 #[.string (bs s.key), .string (bs s.type), .slice a1 s.author.length c1, .slice aE s.editor.length cE, .slice aF s.fields.length cF]) := (HB1.out.set 2 _).kept hk2
        have HR2 := Lib.hid ((HR1.out.other wr.heap.size 2 (.slice a1 s.author.length c1) (by have := HB.out.lt; omega)).kept hk2)
        have HO2A := Lib.hid ((only_set (S := fun i => i ≤ wr.heap.size) w1 wr.heap.size 2 (.slice a1 s.author.length c1) (Nat.le_refl _)).trans (Only.of_kept hk2))
        have HK2 := Lib.hid (HKA.out.trans hk2)
        have HKB := Lib.hid (kept_set HK2.out wr.heap.size 3 v2 hwr)
        obtain ⟨a2, c2, rfl, y1, y2⟩ := hp2
        clear hk2 hf2 y1 y2 e2 e3 f2 z1
        have e3 : w2.cell? ⟨wr.heap.size, 3, none⟩ = some (.slice aE s.editor.length cE) := HB2.out.cell 3 _ rfl
        have e4 : w2.cell? ⟨wr.heap.size, 4, none⟩ = some (.slice aF s.fields.length cF) := HB2.out.cell 4 _ rfl
        have f3 := HB2.out.free 3
        have z2 := HB2.out.lt
        go_wp2_with fail
        refine (HCF.out _ (HPS.out.2.2.kept HKB.out)).mono ?_
        rintro e w3 ⟨v3, rfl, hp3, hf3, hk3⟩
        have HP3 := Lib.hid hp3
        have HF3 : Hid (Fresh (wr.heap.size + 1) v3) := by
          show Fresh _ _
          intro g' o' n' c' he hn
          have := hf3 g' o' n' c' he hn
          rw [size_setCell] at this; omega
        have HB3 : Hid (Blk w3 wr.heap.size 44 #[.string (bs s.key), .string (bs s.type), .slice a1 s.author.length c1, .slice a2 s.editor.length c2, .slice aF s.fields.length cF]) := (HB2.out.set 3 _).kept hk3
        have HR3 := Lib.hid ((HR2.out.other wr.heap.size 3 (.slice a2 s.editor.length c2) (by have := HB.out.lt; omega)).kept hk3)
        have HO3A := Lib.hid ((only_set (S := fun i => i ≤ wr.heap.size) w2 wr.heap.size 3 (.slice a2 s.editor.length c2) (Nat.le_refl _)).trans (Only.of_kept hk3))
        have HK3 := Lib.hid (HKB.out.trans hk3)
        have HKC := Lib.hid (kept_set HK3.out wr.heap.size 4 v3 hwr)
        obtain ⟨a3, c3, rfl, y1, y2⟩ := hp3
        clear hk3 hf3 y1 y2 e3 e4 f3 z2
        have e0 : w3.cell? ⟨wr.heap.size, 0, none⟩ = some (.string (bs s.key)) := HB3.out.cell 0 _ rfl
        have e1 : w3.cell? ⟨wr.heap.size, 1, none⟩ = some (.string (bs s.type)) := HB3.out.cell 1 _ rfl
        have e2 : w3.cell? ⟨wr.heap.size, 2, none⟩ = some (.slice a1 s.author.length c1) := HB3.out.cell 2 _ rfl
        have e3 : w3.cell? ⟨wr.heap.size, 3, none⟩ = some (.slice a2 s.editor.length c2) := HB3.out.cell 3 _ rfl
        have e4 : w3.cell? ⟨wr.heap.size, 4, none⟩ = some (.slice aF s.fields.length cF) := HB3.out.cell 4 _ rfl
        have f4 := HB3.out.free 4
        have z3 := HB3.out.lt
        have b0 : w3.cell? ⟨w.heap.size, 0, none⟩ = some (.string (bs [])) := HR3.out.cell 0 _ rfl
        have b1 : w3.cell? ⟨w.heap.size, 1, none⟩ = some (.string (bs [])) := HR3.out.cell 1 _ rfl
        have b2 : w3.cell? ⟨w.heap.size, 2, none⟩ = some (.slice none 0 0) := HR3.out.cell 2 _ rfl
        have b3 : w3.cell? ⟨w.heap.size, 3, none⟩ = some (.slice none 0 0) := HR3.out.cell 3 _ rfl
        have b4 : w3.cell? ⟨w.heap.size, 4, none⟩ = some (.slice none 0 0) := HR3.out.cell 4 _ rfl
        have h0 := HR3.out.free 0
        have h1 := HR3.out.free 1
        have h2 := HR3.out.free 2
        have h3 := HR3.out.free 3
        have h4 := HR3.out.free 4
        have z4 := HR3.out.lt
        have hne : w.heap.size ≠ wr.heap.size := by have := HB.out.lt; omega
        go_wp2_with fail
        have HO4A := Lib.hid ((only_set (S := fun i => i ≤ wr.heap.size) w3 wr.heap.size 4 (.slice a3 s.fields.length c3) (Nat.le_refl _)).trans (only5 (B := w.heap.size) (v0 := .string (bs s.key)) (v1 := .string (bs s.type)) (v2 := .slice a1 s.author.length c1) (v3 := .slice a2 s.editor.length c2) (v4 := .slice a3 s.fields.length c3) hwr))
        have hK := kept5 HKC.out (v0 := .string (bs s.key)) (v1 := .string (bs s.type)) (v2 := .slice a1 s.author.length c1) (v3 := .slice a2 s.editor.length c2) (v4 := .slice a3 s.fields.length c3)
        refine bodyPost_ret (v := .tuple #[srcV s.key s.type (.slice a1 s.author.length c1) (.slice a2 s.editor.length c2) (.slice a3 s.fields.length c3), .bool true]) (by simp [results, Tryz.results20, go_sem, b0, b1, b2, b3, b4, z4, hne]) rfl ?_
        refine ⟨.slice a1 s.author.length c1, .slice a2 s.editor.length c2, .slice a3 s.fields.length c3, by rw [HO2.out]; rfl, ?_, ?_, ?_, hK⟩
        · rw [HO2.out]; exact HP1.out.away HF1.out ((HO2A.out.trans HO3A.out).trans HO4A.out) (fun i h => by omega)
        · rw [HO2.out]; exact HP2.out.away HF2.out (HO3A.out.trans HO4A.out) (fun i h => by omega)
        · rw [HO2.out]; exact HP3.out.away HF3.out HO4A.out (fun i h => by omega)
    · have HE := Lib.hid (HNO.out (by have h := HN.out; rw [List.take_of_length_le (by omega)] at h; exact h))
      go_wp2_with fail
      have hK := kept5 HKR.out (v0 := .string (bs [])) (v1 := .string (bs [])) (v2 := .slice none 0 0) (v3 := .slice none 0 0) (v4 := .slice none 0 0)
      refine bodyPost_ret (v := .tuple #[srcV [] [] (.slice none 0 0) (.slice none 0 0) (.slice none 0 0), .bool false]) (by simp [results, Tryz.results20, go_sem, b0, b1, b2, b3, b4, z0]) rfl ?_
      refine ⟨.slice none 0 0, .slice none 0 0, .slice none 0 0, by rw [HE.out]; rfl, ?_, ?_, ?_, hK⟩
      · rw [HE.out]; exact Perss.none_ _
      · rw [HE.out]; exact Perss.none_ _
      · rw [HE.out]; exact Prs.none_ _
end Go.Proofs.YtgkgcheegaegnaaGreatDoor
