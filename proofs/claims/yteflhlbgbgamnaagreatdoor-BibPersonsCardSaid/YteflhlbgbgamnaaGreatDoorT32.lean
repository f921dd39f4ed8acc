/- inside of publisherref30. Conditions: lengths. -/
import Derived.Test.YteflhlbgbgamnaaGreatDoorT30
import Derived.Test.YteflhlbgbgamnaaGreatDoorT28
import Derived.Test.YteflhlbgbgamnaaGreatDoorT31
import Derived.Deep.RegionLaw
import Derived.Deep.DrawnRows

set_option linter.all false
namespace Go.Proofs.YteflhlbgbgamnaaGreatDoor
open Go.RowKit
attribute [local go_sem ↓] Go.wp_at_zero Go.wp_at_succ

def RinPost (s : SrcT) (vA vE vF : Value) (r : Int × SrcT) (w : World) (e : Ending) (w' : World) : Prop :=
  ∃ k t a1 a2 a3 n1 n2 n3 c1 c2 c3, e = .returned (.tuple #[srcV k t (.slice a1 n1 c1) (.slice a2 n2 c2) (.slice a3 n3 c3), .int .i64 r.1]) ∧ (r.1 = 0 → k = s.key ∧ t = s.type ∧ Perss w' (.slice a1 n1 c1) r.2.author ∧ Perss w' (.slice a2 n2 c2) r.2.editor ∧ Prs w' (.slice a3 n3 c3) r.2.fields ∧ (.slice a1 n1 c1 = vA ∨ Fresh w.heap.size (.slice a1 n1 c1)) ∧ (.slice a2 n2 c2 = vE ∨ Fresh w.heap.size (.slice a2 n2 c2)) ∧ (.slice a3 n3 c3 = vF ∨ Fresh w.heap.size (.slice a3 n3 c3))) ∧ Kept w w'
/-- A pair that is added to a source. -/
def addK (s : SrcT) (k v : Bs) : Int × SrcT :=
  if k = kAuthor then
    if (parseR v).1 ≠ 0 then ((parseR v).1, s)
    else if 32 ≤ s.author.length then (3, s) else (0, { s with author := s.author ++ [(parseR v).2] })
  else if k = kEditor then
    if (parseR v).1 ≠ 0 then ((parseR v).1, s)
    else if 32 ≤ s.editor.length then (3, s) else (0, { s with editor := s.editor ++ [(parseR v).2] })
  else if nameB k = false then (6, s)
  else if v = [] then (17, s)
  else if hasB s.fields k = true then (7, s)
  else if 24 ≤ s.fields.length then (3, s)
  else (0, { s with fields := s.fields ++ [(k, v)] })
theorem addS_cut (s : SrcT) (l : Bs) (h : before 61 l < l.length) : addS s l = addK s (trimL (l.take (before 61 l))) (trimL (l.drop (before 61 l + 1))) := by
  unfold addS addK; rw [if_pos h]
theorem addK_author (s : SrcT) (v : Bs) : addK s kAuthor v = (persN s.author v, if persN s.author v = 0 then { s with author := s.author ++ [(parseR v).2] } else s) := by
  unfold addK persN
  rw [if_pos rfl]
  by_cases h : (parseR v).1 = 0
  · by_cases h2 : 32 ≤ s.author.length <;> simp [h, h2]
  · simp [h]
theorem addK_editor (s : SrcT) (v : Bs) : addK s kEditor v = (persN s.editor v, if persN s.editor v = 0 then { s with editor := s.editor ++ [(parseR v).2] } else s) := by
  unfold addK persN
  rw [if_neg (by decide), if_pos rfl]
  by_cases h : (parseR v).1 = 0
  · by_cases h2 : 32 ≤ s.editor.length <;> simp [h, h2]
  · simp [h]
theorem kept5at {w wr : World} {B : Nat} {v0 v1 v2 v3 v4 : Value} (h : Kept w wr) (hB : w.heap.size ≤ B) : Kept w (((((wr.setCell ⟨B, 0, none⟩ v0).setCell ⟨B, 1, none⟩ v1).setCell ⟨B, 2, none⟩ v2).setCell ⟨B, 3, none⟩ v3).setCell ⟨B, 4, none⟩ v4) :=
  kept_set (kept_set (kept_set (kept_set (kept_set h _ _ _ hB) _ _ _ hB) _ _ _ hB) _ _ _ hB) _ _ _ hB
theorem field_has (ps : List Pr) (k : Bs) : (fieldL ps k).isSome = hasB ps k := by
  unfold fieldL hasB
  rw [Option.isSome_map, Bool.eq_iff_iff, List.find?_isSome, List.any_eq_true]
theorem Prs.only {S : Nat → Prop} {w w' : World} {g o n c : Nat} {ps : List Pr} (h : Prs w (.slice (some ⟨g, o, none⟩) n c) ps) (k : Only S w w') (hs : ¬ S g) : Prs w' (.slice (some ⟨g, o, none⟩) n c) ps := by
  obtain ⟨a, c', hv, hc, h3⟩ := h
  obtain ⟨rfl, rfl, rfl⟩ := Value.slice.inj hv
  refine ⟨_, _, rfl, hc, fun q => ?_⟩
  obtain ⟨g', o', he, hg, hcell⟩ := h3 q
  cases he
  refine ⟨g, o, rfl, Nat.lt_of_lt_of_le hg k.size, fun j x hx => ?_⟩
  rw [k.cell g _ hg hs, k.cell g _ hg hs]
  exact hcell j x hx
theorem Prs.form {w : World} {v : Value} {ps : List Pr} (h : Prs w v ps) : ∃ a n c, v = .slice a n c := by
  obtain ⟨a, c, hv, _⟩ := h
  exact ⟨a, _, c, hv⟩
theorem new_pair (w : World) (q1 q2 : Bs) : Prs (w.alloc (.cells #[.string (bs q1), .string (bs q2)] 62)) (.slice (some ⟨w.heap.size, 0, none⟩) 1 1) [(q1, q2)] := by
  refine ⟨_, _, rfl, Nat.le_refl _, fun _ => ⟨w.heap.size, 0, rfl, by simp, fun j x hx => ?_⟩⟩
  have hb := Blk.new w 62 #[.string (bs q1), .string (bs q2)]
  cases j with
  | zero => cases hx; exact ⟨hb.cell 0 _ rfl, hb.cell 1 _ rfl⟩
  | succ j => simp at hx
/-- What every walk of inside begins with. -/
structure InSt (s : SrcT) (aA aE aF : Option Addr) (cA cE cF : Nat) (w : World) : Prop where
  a : Perss w (.slice aA s.author.length cA) s.author
  e : Perss w (.slice aE s.editor.length cE) s.editor
  f : Prs w (.slice aF s.fields.length cF) s.fields
theorem InSt.kept {s : SrcT} {aA aE aF : Option Addr} {cA cE cF : Nat} {w w' : World} (h : InSt s aA aE aF cA cE cF w) (k : Kept w w') : InSt s aA aE aF cA cE cF w' := ⟨h.a.kept k, h.e.kept k, h.f.kept k⟩
set_option maxRecDepth 100000 in
set_option maxHeartbeats 3200000 in
theorem rinside_form (s : SrcT) (aA aE aF : Option Addr) (cA cE cF : Nat) (l : Bs) (w : World) (hl : l.length ≤ 100000) (hcut : ¬ before 61 l < l.length) :
    Calls Tryz.prog 47 #[srcV s.key s.type (.slice aA s.author.length cA) (.slice aE s.editor.length cE) (.slice aF s.fields.length cF), .string (bs l)] w (RinPost s (.slice aA s.author.length cA) (.slice aE s.editor.length cE) (.slice aF s.fields.length cF) (addS s l) w) := by
  have HA : Hid (addS s l = (5, s)) := by show _ = _; unfold addS; rw [if_neg hcut]
  rw [HA.out]
  have hix : idxI 61 l = -1 := by unfold idxI; rw [if_neg hcut]
  have HIX := Lib.hid (fun w => rindex_any l 61 61 rfl w (by omega))
  rw [hix] at HIX
  unfold RinPost
  go_enter Tryz.func47, Tryz.ntmps47
  go_wp2_with fail
  refine (HIX.out _).mono ?_
  rintro e w1 ⟨rfl, rfl⟩
  go_wp2_with fail
  refine bodyPost_ret (v := .tuple #[srcV s.key s.type (.slice aA s.author.length cA) (.slice aE s.editor.length cE) (.slice aF s.fields.length cF), .int .i64 5]) (by simp [results, Tryz.results47, go_sem]) rfl ?_
  exact ⟨_, _, _, _, _, _, _, _, _, _, _, rfl, fun h => by simp at h, (kept_alloc _ _).trans (kept_alloc _ _)⟩
set_option maxRecDepth 100000 in
set_option maxHeartbeats 40000000 in
theorem rinside_rest (s : SrcT) (aA aE aF : Option Addr) (cA cE cF : Nat) (l : Bs) (w : World) (hl : l.length ≤ 100000) (hI : InSt s aA aE aF cA cE cF w) (hsm : Small4 s) (hcut : before 61 l < l.length) :
    Calls Tryz.prog 47 #[srcV s.key s.type (.slice aA s.author.length cA) (.slice aE s.editor.length cE) (.slice aF s.fields.length cF), .string (bs l)] w (RinPost s (.slice aA s.author.length cA) (.slice aE s.editor.length cE) (.slice aF s.fields.length cF) (addS s l) w) := by
  obtain ⟨K, hK⟩ : ∃ K : Int, K = (before 61 l : Int) := ⟨_, rfl⟩
  have hix : idxI 61 l = K := by unfold idxI; rw [if_pos hcut, hK]
  have HIX := Lib.hid (fun w => rindex_any l 61 61 rfl w (by omega))
  rw [hix] at HIX
  have hkl := trimL_le (l.take (before 61 l))
  have hvl := trimL_le (l.drop (before 61 l + 1))
  have htk : (l.take (before 61 l)).length ≤ 100000 := by simp; omega
  have htv : (l.drop (before 61 l + 1)).length ≤ 100000 := by simp; omega
  have HTK := Lib.hid (fun w => rtrim_any (l.take (before 61 l)) w (by omega))
  have HTV := Lib.hid (fun w => rtrim_any (l.drop (before 61 l + 1)) w (by omega))
  have s1 := run_upto (P := Tryz.prog) (t := 9) Tryz.underlying9 l (before 61 l) (by omega) K hK _ rfl
  have s2 := run_from (P := Tryz.prog) (t := 9) Tryz.underlying9 l (before 61 l + 1) (by omega) (K + 1) (by omega) _ rfl
  have hK0 : 0 ≤ K := by omega
  have hK1 : K ≤ 1000000 := by omega
  rw [addS_cut s l hcut]
  generalize trimL (l.take (before 61 l)) = k at *
  generalize trimL (l.drop (before 61 l + 1)) = v at *
  generalize l.take (before 61 l) = lk at *
  generalize l.drop (before 61 l + 1) = lv at *
  have hkl2 : k.length ≤ 100000 := by omega
  have hvl2 : v.length ≤ 100000 := by omega
  clear hcut hK hix hkl hvl htk htv
  have HI := Lib.hid hI
  obtain ⟨hs1, hs2, hs3⟩ := hsm
  clear hI
  obtain ⟨E, s', HR0⟩ : ∃ E s', Hid (addK s k v = (E, s')) := ⟨_, _, rfl⟩
  rw [HR0.out]
  unfold RinPost
  go_enter Tryz.func47, Tryz.ntmps47
  go_wp2_with fail
  refine (HIX.out _).mono ?_
  rintro e w1 ⟨rfl, rfl⟩
  go_wp2_with fail
  have HBS : Hid (Blk ((w.alloc (.cells #[.string (bs s.key), .string (bs s.type), .slice aA s.author.length cA, .slice aE s.editor.length cE, .slice aF s.fields.length cF] 40)).alloc (.cells #[.string (bs []), .string (bs []), .slice none 0 0, .slice none 0 0, .slice none 0 0] 40)) w.heap.size 40 #[.string (bs s.key), .string (bs s.type), .slice aA s.author.length cA, .slice aE s.editor.length cE, .slice aF s.fields.length cF]) := (Blk.new w 40 #[.string (bs s.key), .string (bs s.type), .slice aA s.author.length cA, .slice aE s.editor.length cE, .slice aF s.fields.length cF]).kept (kept_alloc _ _)
  have HBR : Hid (Blk ((w.alloc (.cells #[.string (bs s.key), .string (bs s.type), .slice aA s.author.length cA, .slice aE s.editor.length cE, .slice aF s.fields.length cF] 40)).alloc (.cells #[.string (bs []), .string (bs []), .slice none 0 0, .slice none 0 0, .slice none 0 0] 40)) (w.heap.size + 1) 40 #[.string (bs []), .string (bs []), .slice none 0 0, .slice none 0 0, .slice none 0 0]) := by
    show Blk _ _ _ _
    have h := Blk.new (w.alloc (.cells #[.string (bs s.key), .string (bs s.type), .slice aA s.author.length cA, .slice aE s.editor.length cE, .slice aF s.fields.length cF] 40)) 40 #[.string (bs []), .string (bs []), .slice none 0 0, .slice none 0 0, .slice none 0 0]
    rwa [show (w.alloc (.cells #[.string (bs s.key), .string (bs s.type), .slice aA s.author.length cA, .slice aE s.editor.length cE, .slice aF s.fields.length cF] 40)).heap.size = w.heap.size + 1 from by simp] at h
  have HK0 : Hid (Kept w ((w.alloc (.cells #[.string (bs s.key), .string (bs s.type), .slice aA s.author.length cA, .slice aE s.editor.length cE, .slice aF s.fields.length cF] 40)).alloc (.cells #[.string (bs []), .string (bs []), .slice none 0 0, .slice none 0 0, .slice none 0 0] 40))) := (kept_alloc _ _).trans (kept_alloc _ _)
  have hz0 : ((w.alloc (.cells #[.string (bs s.key), .string (bs s.type), .slice aA s.author.length cA, .slice aE s.editor.length cE, .slice aF s.fields.length cF] 40)).alloc (.cells #[.string (bs []), .string (bs []), .slice none 0 0, .slice none 0 0, .slice none 0 0] 40)).heap.size = w.heap.size + 2 := by simp
  generalize ((w.alloc (.cells #[.string (bs s.key), .string (bs s.type), .slice aA s.author.length cA, .slice aE s.editor.length cE, .slice aF s.fields.length cF] 40)).alloc (.cells #[.string (bs []), .string (bs []), .slice none 0 0, .slice none 0 0, .slice none 0 0] 40)) = w0 at *
  generalize hB : w.heap.size = B at *
  have hwr : IntKind.i64.wrap (K + 1) = K + 1 := IntWalk.i64_in _ (by omega)
  go_region_held3 (fun w' => True) (trivial)
    (first
      | (go_at_call_of 17 (Value.string (bs lk)); refine (HTK.out _).mono ?_; rintro e w' ⟨rfl, rfl⟩)
      | (go_at_call_of 17 (Value.string (bs lv)); refine (HTV.out _).mono ?_; rintro e w' ⟨rfl, rfl⟩))
  all_goals
    clear s1 s2 HTK HTV HIX
    have HP2 : Hid (Blk (w0.alloc (.cells #[.string (bs k), .string (bs v)] 62)).drew (B + 2) 62 #[.string (bs k), .string (bs v)]) := by
      show Blk _ _ _ _
      have h := (Blk.new w0 62 #[.string (bs k), .string (bs v)]).kept (kept_drewN _ 1)
      rw [hz0] at h; exact h
    have HS2 : Hid (Blk (w0.alloc (.cells #[.string (bs k), .string (bs v)] 62)).drew B 40 #[.string (bs s.key), .string (bs s.type), .slice aA s.author.length cA, .slice aE s.editor.length cE, .slice aF s.fields.length cF]) := (HBS.out.kept (kept_alloc _ _)).kept (kept_drewN _ 1)
    have HR2 : Hid (Blk (w0.alloc (.cells #[.string (bs k), .string (bs v)] 62)).drew (B + 1) 40 #[.string (bs []), .string (bs []), .slice none 0 0, .slice none 0 0, .slice none 0 0]) := (HBR.out.kept (kept_alloc _ _)).kept (kept_drewN _ 1)
    have HK2 : Hid (Kept w (w0.alloc (.cells #[.string (bs k), .string (bs v)] 62)).drew) := (HK0.out.trans (kept_alloc _ _)).trans (kept_drewN _ 1)
    clear HBS HBR HK0 hz0
    generalize (w0.alloc (.cells #[.string (bs k), .string (bs v)] 62)).drew = w2 at *
    have sc0 : w2.cell? ⟨B, 0, none⟩ = some (.string (bs s.key)) := HS2.out.cell 0 _ rfl
    have sc1 : w2.cell? ⟨B, 1, none⟩ = some (.string (bs s.type)) := HS2.out.cell 1 _ rfl
    have sc2 : w2.cell? ⟨B, 2, none⟩ = some (.slice aA s.author.length cA) := HS2.out.cell 2 _ rfl
    have sc3 : w2.cell? ⟨B, 3, none⟩ = some (.slice aE s.editor.length cE) := HS2.out.cell 3 _ rfl
    have sc4 : w2.cell? ⟨B, 4, none⟩ = some (.slice aF s.fields.length cF) := HS2.out.cell 4 _ rfl
    have rc0 : w2.cell? ⟨B + 1, 0, none⟩ = some (.string (bs [])) := HR2.out.cell 0 _ rfl
    have rc1 : w2.cell? ⟨B + 1, 1, none⟩ = some (.string (bs [])) := HR2.out.cell 1 _ rfl
    have rc2 : w2.cell? ⟨B + 1, 2, none⟩ = some (.slice none 0 0) := HR2.out.cell 2 _ rfl
    have rc3 : w2.cell? ⟨B + 1, 3, none⟩ = some (.slice none 0 0) := HR2.out.cell 3 _ rfl
    have rc4 : w2.cell? ⟨B + 1, 4, none⟩ = some (.slice none 0 0) := HR2.out.cell 4 _ rfl
    have pc0 : w2.cell? ⟨B + 2, 0, none⟩ = some (.string (bs k)) := HP2.out.cell 0 _ rfl
    have pc1 : w2.cell? ⟨B + 2, 1, none⟩ = some (.string (bs v)) := HP2.out.cell 1 _ rfl
    have sf0 := HS2.out.free 0
    have sf1 := HS2.out.free 1
    have sf2 := HS2.out.free 2
    have sf3 := HS2.out.free 3
    have sf4 := HS2.out.free 4
    have rf0 := HR2.out.free 0
    have rf1 := HR2.out.free 1
    have rf2 := HR2.out.free 2
    have rf3 := HR2.out.free 3
    have rf4 := HR2.out.free 4
    have sz := HS2.out.lt
    have rz := HR2.out.lt
    have pz := HP2.out.lt
    by_cases hA : k = [97, 117, 116, 104, 111, 114]
    · obtain rfl : k = [97, 117, 116, 104, 111, 114] := hA
      have hR := HR0.out
      rw [show addK s [97, 117, 116, 104, 111, 114] v = _ from addK_author s v] at hR
      obtain ⟨hR1, hR2⟩ := Prod.mk.inj hR
      have HR1 := Lib.hid hR1
      have HR2' := Lib.hid hR2
      clear hR hR1 hR2 HR0
      have HPA := Lib.hid (rperson_any (.slice aA s.author.length cA) s.author v w2 (by omega) (HI.out.a.kept HK2.out) (by omega))
      unfold RpersPost at HPA
      rw [HR1.out] at HPA HR2'
      go_wp2_with fail
      refine (HPA.out).mono ?_
      rintro e w3 ⟨u, rfl, hsl, hA, hk⟩
      have HK3 := Lib.hid (HK2.out.trans hk)
      have HS3 := Lib.hid (HS2.out.kept hk)
      have HR3 := Lib.hid (HR2.out.kept hk)
      have HP3 := Lib.hid (HP2.out.kept hk)
      have hB3 : B + 3 ≤ w2.heap.size := by omega
      obtain ⟨au, nu, cu, rfl⟩ := hsl
      have HA := Lib.hid hA
      clear hk hA
      clear sc0 sc1 sc2 sc3 sc4 rc0 rc1 rc2 rc3 rc4 pc0 pc1 sf0 sf1 sf2 sf3 sf4 rf0 rf1 rf2 rf3 rf4 sz rz pz
      have sc0 : w3.cell? ⟨B, 0, none⟩ = some (.string (bs s.key)) := HS3.out.cell 0 _ rfl
      have sc1 : w3.cell? ⟨B, 1, none⟩ = some (.string (bs s.type)) := HS3.out.cell 1 _ rfl
      have sc2 : w3.cell? ⟨B, 2, none⟩ = some (.slice aA s.author.length cA) := HS3.out.cell 2 _ rfl
      have sc3 : w3.cell? ⟨B, 3, none⟩ = some (.slice aE s.editor.length cE) := HS3.out.cell 3 _ rfl
      have sc4 : w3.cell? ⟨B, 4, none⟩ = some (.slice aF s.fields.length cF) := HS3.out.cell 4 _ rfl
      have rc0 : w3.cell? ⟨B + 1, 0, none⟩ = some (.string (bs [])) := HR3.out.cell 0 _ rfl
      have rc1 : w3.cell? ⟨B + 1, 1, none⟩ = some (.string (bs [])) := HR3.out.cell 1 _ rfl
      have rc2 : w3.cell? ⟨B + 1, 2, none⟩ = some (.slice none 0 0) := HR3.out.cell 2 _ rfl
      have rc3 : w3.cell? ⟨B + 1, 3, none⟩ = some (.slice none 0 0) := HR3.out.cell 3 _ rfl
      have rc4 : w3.cell? ⟨B + 1, 4, none⟩ = some (.slice none 0 0) := HR3.out.cell 4 _ rfl
      have pc0 : w3.cell? ⟨B + 2, 0, none⟩ = some (.string (bs [97, 117, 116, 104, 111, 114])) := HP3.out.cell 0 _ rfl
      have pc1 : w3.cell? ⟨B + 2, 1, none⟩ = some (.string (bs v)) := HP3.out.cell 1 _ rfl
      have sf0 := HS3.out.free 0
      have sf1 := HS3.out.free 1
      have sf2 := HS3.out.free 2
      have sf3 := HS3.out.free 3
      have sf4 := HS3.out.free 4
      have rf0 := HR3.out.free 0
      have rf1 := HR3.out.free 1
      have rf2 := HR3.out.free 2
      have rf3 := HR3.out.free 3
      have rf4 := HR3.out.free 4
      have sz := HS3.out.lt
      have rz := HR3.out.lt
      have pz := HP3.out.lt
      go_wp2_with fail
      have hK := kept5at (kept_set HK3.out B 2 (.slice au nu cu) (by omega)) (B := B + 1) (by omega) (v0 := .string (bs s.key)) (v1 := .string (bs s.type)) (v2 := .slice au nu cu) (v3 := .slice aE s.editor.length cE) (v4 := .slice aF s.fields.length cF)
      have hO := (only_set (S := fun i => i ≤ B + 1) w3 B 2 (.slice au nu cu) (by omega)).trans (only5 (B := B + 1) (v0 := .string (bs s.key)) (v1 := .string (bs s.type)) (v2 := .slice au nu cu) (v3 := .slice aE s.editor.length cE) (v4 := .slice aF s.fields.length cF) (Nat.le_refl _))
      refine bodyPost_ret (v := .tuple #[srcV s.key s.type (.slice au nu cu) (.slice aE s.editor.length cE) (.slice aF s.fields.length cF), .int .i64 E]) (by simp [results, Tryz.results47, go_sem, rz, rc0, rc1, rc2, rc3, rc4]) rfl ?_
      refine ⟨_, _, _, _, _, _, _, _, _, _, _, rfl, fun h => ?_, hK⟩
      have hA := HA.out
      have hF : Fresh w.heap.size (.slice au nu cu) := fun g o n c q hn => by have := (hA h).2 g o n c q hn; omega
      have h2 := HR2'.out
      rw [if_pos h] at h2
      subst h2
      exact ⟨rfl, rfl, ((hA h).1.away (hA h).2 hO (fun i q => by omega)), HI.out.e.kept hK, HI.out.f.kept hK, .inr hF, .inl rfl, .inl rfl⟩
    by_cases hE : k = [101, 100, 105, 116, 111, 114]
    · obtain rfl : k = [101, 100, 105, 116, 111, 114] := hE
      have hR := HR0.out
      rw [show addK s [101, 100, 105, 116, 111, 114] v = _ from addK_editor s v] at hR
      obtain ⟨hR1, hR2⟩ := Prod.mk.inj hR
      have HR1 := Lib.hid hR1
      have HR2' := Lib.hid hR2
      clear hR hR1 hR2 HR0
      have HPA := Lib.hid (rperson_any (.slice aE s.editor.length cE) s.editor v w2 (by omega) (HI.out.e.kept HK2.out) (by omega))
      unfold RpersPost at HPA
      rw [HR1.out] at HPA HR2'
      go_wp2_with fail
      refine (HPA.out).mono ?_
      rintro e w3 ⟨u, rfl, hsl, hA, hk⟩
      have HK3 := Lib.hid (HK2.out.trans hk)
      have HS3 := Lib.hid (HS2.out.kept hk)
      have HR3 := Lib.hid (HR2.out.kept hk)
      have HP3 := Lib.hid (HP2.out.kept hk)
      have hB3 : B + 3 ≤ w2.heap.size := by omega
      obtain ⟨au, nu, cu, rfl⟩ := hsl
      have HA := Lib.hid hA
      clear hk hA
      clear sc0 sc1 sc2 sc3 sc4 rc0 rc1 rc2 rc3 rc4 pc0 pc1 sf0 sf1 sf2 sf3 sf4 rf0 rf1 rf2 rf3 rf4 sz rz pz
      have sc0 : w3.cell? ⟨B, 0, none⟩ = some (.string (bs s.key)) := HS3.out.cell 0 _ rfl
      have sc1 : w3.cell? ⟨B, 1, none⟩ = some (.string (bs s.type)) := HS3.out.cell 1 _ rfl
      have sc2 : w3.cell? ⟨B, 2, none⟩ = some (.slice aA s.author.length cA) := HS3.out.cell 2 _ rfl
      have sc3 : w3.cell? ⟨B, 3, none⟩ = some (.slice aE s.editor.length cE) := HS3.out.cell 3 _ rfl
      have sc4 : w3.cell? ⟨B, 4, none⟩ = some (.slice aF s.fields.length cF) := HS3.out.cell 4 _ rfl
      have rc0 : w3.cell? ⟨B + 1, 0, none⟩ = some (.string (bs [])) := HR3.out.cell 0 _ rfl
      have rc1 : w3.cell? ⟨B + 1, 1, none⟩ = some (.string (bs [])) := HR3.out.cell 1 _ rfl
      have rc2 : w3.cell? ⟨B + 1, 2, none⟩ = some (.slice none 0 0) := HR3.out.cell 2 _ rfl
      have rc3 : w3.cell? ⟨B + 1, 3, none⟩ = some (.slice none 0 0) := HR3.out.cell 3 _ rfl
      have rc4 : w3.cell? ⟨B + 1, 4, none⟩ = some (.slice none 0 0) := HR3.out.cell 4 _ rfl
      have pc0 : w3.cell? ⟨B + 2, 0, none⟩ = some (.string (bs [101, 100, 105, 116, 111, 114])) := HP3.out.cell 0 _ rfl
      have pc1 : w3.cell? ⟨B + 2, 1, none⟩ = some (.string (bs v)) := HP3.out.cell 1 _ rfl
      have sf0 := HS3.out.free 0
      have sf1 := HS3.out.free 1
      have sf2 := HS3.out.free 2
      have sf3 := HS3.out.free 3
      have sf4 := HS3.out.free 4
      have rf0 := HR3.out.free 0
      have rf1 := HR3.out.free 1
      have rf2 := HR3.out.free 2
      have rf3 := HR3.out.free 3
      have rf4 := HR3.out.free 4
      have sz := HS3.out.lt
      have rz := HR3.out.lt
      have pz := HP3.out.lt
      go_wp2_with fail
      have hK := kept5at (kept_set HK3.out B 3 (.slice au nu cu) (by omega)) (B := B + 1) (by omega) (v0 := .string (bs s.key)) (v1 := .string (bs s.type)) (v2 := .slice aA s.author.length cA) (v3 := .slice au nu cu) (v4 := .slice aF s.fields.length cF)
      have hO := (only_set (S := fun i => i ≤ B + 1) w3 B 3 (.slice au nu cu) (by omega)).trans (only5 (B := B + 1) (v0 := .string (bs s.key)) (v1 := .string (bs s.type)) (v2 := .slice aA s.author.length cA) (v3 := .slice au nu cu) (v4 := .slice aF s.fields.length cF) (Nat.le_refl _))
      refine bodyPost_ret (v := .tuple #[srcV s.key s.type (.slice aA s.author.length cA) (.slice au nu cu) (.slice aF s.fields.length cF), .int .i64 E]) (by simp [results, Tryz.results47, go_sem, rz, rc0, rc1, rc2, rc3, rc4]) rfl ?_
      refine ⟨_, _, _, _, _, _, _, _, _, _, _, rfl, fun h => ?_, hK⟩
      have hA := HA.out
      have hF : Fresh w.heap.size (.slice au nu cu) := fun g o n c q hn => by have := (hA h).2 g o n c q hn; omega
      have h2 := HR2'.out
      rw [if_pos h] at h2
      subst h2
      exact ⟨rfl, rfl, HI.out.a.kept hK, ((hA h).1.away (hA h).2 hO (fun i q => by omega)), HI.out.f.kept hK, .inl rfl, .inr hF, .inl rfl⟩
    have hA' : (k == [97, 117, 116, 104, 111, 114]) = false := by simpa using hA
    have hE' : (k == [101, 100, 105, 116, 111, 114]) = false := by simpa using hE
    have HADD : Hid (addK s k v = if nameB k = false then (6, s) else if v = [] then (17, s) else if hasB s.fields k = true then (7, s) else if 24 ≤ s.fields.length then (3, s) else (0, { s with fields := s.fields ++ [(k, v)] })) := by
      show _ = _
      unfold addK; rw [if_neg (show ¬ k = kAuthor from hA), if_neg (show ¬ k = kEditor from hE)]
    have HN := Lib.hid (fun w => rname_any k w (by omega))
    have HFD := Lib.hid (fun w' (h : Kept w w') => rfield_any s.key s.type (.slice aA s.author.length cA) (.slice aE s.editor.length cE) (.slice aF s.fields.length cF) s.fields k w' (HI.out.f.kept h) (by omega))
    unfold FieldPost at HFD
    rw [field_has] at HFD
    generalize (fieldL s.fields k).getD [] = fv at *
    have HAD := Lib.hid (HADD.out.symm.trans HR0.out)
    clear hA hE HADD HR0
    go_wp2_with fail
    refine (HN.out _).mono ?_
    rintro e w3 ⟨rfl, hk⟩
    have HK3 := Lib.hid (HK2.out.trans hk)
    have HS3 := Lib.hid (HS2.out.kept hk)
    have HR3 := Lib.hid (HR2.out.kept hk)
    have HP3 := Lib.hid (HP2.out.kept hk)
    clear hk
    clear sc0 sc1 sc2 sc3 sc4 rc0 rc1 rc2 rc3 rc4 pc0 pc1 sf0 sf1 sf2 sf3 sf4 rf0 rf1 rf2 rf3 rf4 sz rz pz
    have sc0 : w3.cell? ⟨B, 0, none⟩ = some (.string (bs s.key)) := HS3.out.cell 0 _ rfl
    have sc1 : w3.cell? ⟨B, 1, none⟩ = some (.string (bs s.type)) := HS3.out.cell 1 _ rfl
    have sc2 : w3.cell? ⟨B, 2, none⟩ = some (.slice aA s.author.length cA) := HS3.out.cell 2 _ rfl
    have sc3 : w3.cell? ⟨B, 3, none⟩ = some (.slice aE s.editor.length cE) := HS3.out.cell 3 _ rfl
    have sc4 : w3.cell? ⟨B, 4, none⟩ = some (.slice aF s.fields.length cF) := HS3.out.cell 4 _ rfl
    have rc0 : w3.cell? ⟨B + 1, 0, none⟩ = some (.string (bs [])) := HR3.out.cell 0 _ rfl
    have rc1 : w3.cell? ⟨B + 1, 1, none⟩ = some (.string (bs [])) := HR3.out.cell 1 _ rfl
    have rc2 : w3.cell? ⟨B + 1, 2, none⟩ = some (.slice none 0 0) := HR3.out.cell 2 _ rfl
    have rc3 : w3.cell? ⟨B + 1, 3, none⟩ = some (.slice none 0 0) := HR3.out.cell 3 _ rfl
    have rc4 : w3.cell? ⟨B + 1, 4, none⟩ = some (.slice none 0 0) := HR3.out.cell 4 _ rfl
    have pc0 : w3.cell? ⟨B + 2, 0, none⟩ = some (.string (bs k)) := HP3.out.cell 0 _ rfl
    have pc1 : w3.cell? ⟨B + 2, 1, none⟩ = some (.string (bs v)) := HP3.out.cell 1 _ rfl
    have sf0 := HS3.out.free 0
    have sf1 := HS3.out.free 1
    have sf2 := HS3.out.free 2
    have sf3 := HS3.out.free 3
    have sf4 := HS3.out.free 4
    have rf0 := HR3.out.free 0
    have rf1 := HR3.out.free 1
    have rf2 := HR3.out.free 2
    have rf3 := HR3.out.free 3
    have rf4 := HR3.out.free 4
    have sz := HS3.out.lt
    have rz := HR3.out.lt
    have pz := HP3.out.lt
    cases hn : nameB k
    · rw [hn, if_pos rfl] at HAD
      obtain ⟨rfl, rfl⟩ := Prod.mk.inj HAD.out
      go_wp2_with fail
      have hK := kept5at HK3.out (B := B + 1) (by omega) (v0 := .string (bs s.key)) (v1 := .string (bs s.type)) (v2 := .slice aA s.author.length cA) (v3 := .slice aE s.editor.length cE) (v4 := .slice aF s.fields.length cF)
      refine bodyPost_ret (v := .tuple #[srcV s.key s.type (.slice aA s.author.length cA) (.slice aE s.editor.length cE) (.slice aF s.fields.length cF), .int .i64 6]) (by simp [results, Tryz.results47, go_sem, rz, rc0, rc1, rc2, rc3, rc4]) rfl ?_
      exact ⟨_, _, _, _, _, _, _, _, _, _, _, rfl, fun h => by simp at h, hK⟩
    rw [hn, if_neg (by simp)] at HAD
    by_cases hv : v = []
    · rw [if_pos hv] at HAD
      obtain ⟨rfl, rfl⟩ := Prod.mk.inj HAD.out
      subst hv
      go_wp2_with fail
      have hK := kept5at HK3.out (B := B + 1) (by omega) (v0 := .string (bs s.key)) (v1 := .string (bs s.type)) (v2 := .slice aA s.author.length cA) (v3 := .slice aE s.editor.length cE) (v4 := .slice aF s.fields.length cF)
      refine bodyPost_ret (v := .tuple #[srcV s.key s.type (.slice aA s.author.length cA) (.slice aE s.editor.length cE) (.slice aF s.fields.length cF), .int .i64 17]) (by simp [results, Tryz.results47, go_sem, rz, rc0, rc1, rc2, rc3, rc4]) rfl ?_
      exact ⟨_, _, _, _, _, _, _, _, _, _, _, rfl, fun h => by simp at h, hK⟩
    rw [if_neg hv] at HAD
    have hv1 : (v == []) = false := by simpa using hv
    have hv2 : (v != []) = true := by simpa using hv
    have hv3 : (List.length v == 0) = false := by simpa using hv
    clear hv
    go_wp2_with fail
    refine (HFD.out _ HK3.out).mono ?_
    rintro e w4 ⟨rfl, hk⟩
    have HK4 := Lib.hid (HK3.out.trans hk)
    have HS4 := Lib.hid (HS3.out.kept hk)
    have HR4 := Lib.hid (HR3.out.kept hk)
    have HP4 := Lib.hid (HP3.out.kept hk)
    clear hk
    clear sc0 sc1 sc2 sc3 sc4 rc0 rc1 rc2 rc3 rc4 pc0 pc1 sf0 sf1 sf2 sf3 sf4 rf0 rf1 rf2 rf3 rf4 sz rz pz
    have sc0 : w4.cell? ⟨B, 0, none⟩ = some (.string (bs s.key)) := HS4.out.cell 0 _ rfl
    have sc1 : w4.cell? ⟨B, 1, none⟩ = some (.string (bs s.type)) := HS4.out.cell 1 _ rfl
    have sc2 : w4.cell? ⟨B, 2, none⟩ = some (.slice aA s.author.length cA) := HS4.out.cell 2 _ rfl
    have sc3 : w4.cell? ⟨B, 3, none⟩ = some (.slice aE s.editor.length cE) := HS4.out.cell 3 _ rfl
    have sc4 : w4.cell? ⟨B, 4, none⟩ = some (.slice aF s.fields.length cF) := HS4.out.cell 4 _ rfl
    have rc0 : w4.cell? ⟨B + 1, 0, none⟩ = some (.string (bs [])) := HR4.out.cell 0 _ rfl
    have rc1 : w4.cell? ⟨B + 1, 1, none⟩ = some (.string (bs [])) := HR4.out.cell 1 _ rfl
    have rc2 : w4.cell? ⟨B + 1, 2, none⟩ = some (.slice none 0 0) := HR4.out.cell 2 _ rfl
    have rc3 : w4.cell? ⟨B + 1, 3, none⟩ = some (.slice none 0 0) := HR4.out.cell 3 _ rfl
    have rc4 : w4.cell? ⟨B + 1, 4, none⟩ = some (.slice none 0 0) := HR4.out.cell 4 _ rfl
    have pc0 : w4.cell? ⟨B + 2, 0, none⟩ = some (.string (bs k)) := HP4.out.cell 0 _ rfl
    have pc1 : w4.cell? ⟨B + 2, 1, none⟩ = some (.string (bs v)) := HP4.out.cell 1 _ rfl
    have sf0 := HS4.out.free 0
    have sf1 := HS4.out.free 1
    have sf2 := HS4.out.free 2
    have sf3 := HS4.out.free 3
    have sf4 := HS4.out.free 4
    have rf0 := HR4.out.free 0
    have rf1 := HR4.out.free 1
    have rf2 := HR4.out.free 2
    have rf3 := HR4.out.free 3
    have rf4 := HR4.out.free 4
    have sz := HS4.out.lt
    have rz := HR4.out.lt
    have pz := HP4.out.lt
    cases hh : hasB s.fields k
    · rw [hh, if_neg (by simp)] at HAD
      by_cases h24 : 24 ≤ s.fields.length
      · rw [if_pos h24] at HAD
        obtain ⟨rfl, rfl⟩ := Prod.mk.inj HAD.out
        go_wp2_with fail
        have hK := kept5at HK4.out (B := B + 1) (by omega) (v0 := .string (bs s.key)) (v1 := .string (bs s.type)) (v2 := .slice aA s.author.length cA) (v3 := .slice aE s.editor.length cE) (v4 := .slice aF s.fields.length cF)
        refine bodyPost_ret (v := .tuple #[srcV s.key s.type (.slice aA s.author.length cA) (.slice aE s.editor.length cE) (.slice aF s.fields.length cF), .int .i64 3]) (by simp [results, Tryz.results47, go_sem, rz, rc0, rc1, rc2, rc3, rc4]) rfl ?_
        exact ⟨_, _, _, _, _, _, _, _, _, _, _, rfl, fun h => by simp at h, hK⟩
      · rw [if_neg h24] at HAD
        obtain ⟨rfl, rfl⟩ := Prod.mk.inj HAD.out
        have HC : Hid (∀ w', Kept w4 w' → (w'.cell? ⟨B + 2, 0, none⟩ = some (.string (bs k)) ∧ w'.cell? ⟨B + 2, 1, none⟩ = some (.string (bs v))) ∧ w'.frozen? ⟨B, 4, none⟩ = false ∧ B + 2 < w'.heap.size ∧ B < w'.heap.size) := fun w' h => ⟨⟨(HP4.out.kept h).cell 0 _ rfl, (HP4.out.kept h).cell 1 _ rfl⟩, (HS4.out.kept h).free 4, (HP4.out.kept h).lt, (HS4.out.kept h).lt⟩
        have HCS : Hid (∀ w0 x, Kept w4 w0 → (fun w' => (w'.cell? ⟨B + 2, 0, none⟩ = some (.string (bs k)) ∧ w'.cell? ⟨B + 2, 1, none⟩ = some (.string (bs v))) ∧ w'.frozen? ⟨B, 4, none⟩ = false ∧ B + 2 < w'.heap.size ∧ B < w'.heap.size) (w0.setCell ⟨B, 4, none⟩ x)) := fun w0 x h => ⟨⟨((HP4.out.kept h).other B 4 x (by omega)).cell 0 _ rfl, ((HP4.out.kept h).other B 4 x (by omega)).cell 1 _ rfl⟩, ((HS4.out.kept h).set 4 x).free 4, ((HP4.out.kept h).other B 4 x (by omega)).lt, ((HS4.out.kept h).set 4 x).lt⟩
        have HCZ : Hid (∀ w', Kept w4 w' → w'.cell? ⟨B, 4, none⟩ = some (.slice aF s.fields.length cF) ∧ w'.frozen? ⟨B, 4, none⟩ = false ∧ B < w'.heap.size) := fun w' h => ⟨(HS4.out.kept h).cell 4 _ rfl, (HS4.out.kept h).free 4, (HS4.out.kept h).lt⟩
        have HV0 := Lib.hid (HI.out.f.kept HK4.out)
        have hKd : Kept w4 w4.drew := kept_drewN w4 1
        have hKE : Kept w4 (w4.drew.alloc (.cells #[] 62)) := hKd.trans (kept_alloc _ _)
        have hKQ : Kept w4 (w4.drew.alloc (.cells #[.string (bs k), .string (bs v)] 62)) := hKd.trans (kept_alloc _ _)
        have hKEQ : Kept w4 ((w4.drew.alloc (.cells #[] 62)).alloc (.cells #[.string (bs k), .string (bs v)] 62)) := hKE.trans (kept_alloc _ _)
        have hKQE : Kept w4 ((w4.drew.alloc (.cells #[.string (bs k), .string (bs v)] 62)).alloc (.cells #[] 62)) := hKQ.trans (kept_alloc _ _)
        have HOC := Lib.hid (World.ownsRow_made (size := 2) (e := 62) (base := w4.heap.size) w4.drew #[] 0 (Nat.le_refl _) (by unfold maxLen; omega) (by simp))
        have HOA := Lib.hid (HOC.out.alloc (.cells #[.string (bs k), .string (bs v)] 62))
        have HOB := Lib.hid (World.ownsRow_made (size := 2) (e := 62) (base := w4.heap.size) (w4.drew.alloc (.cells #[.string (bs k), .string (bs v)] 62)) #[] 0 (by simp) (by unfold maxLen; omega) (by simp))
        have HQA := Lib.hid (new_pair (w4.drew.alloc (.cells #[] 62)) k v)
        have HQB := Lib.hid ((new_pair w4.drew k v).kept (kept_alloc _ (.cells #[] 62)))
        clear rc0 rc1 rc2 rc3 rc4 rf0 rf1 rf2 rf3 rf4 sc0 sc1 sc2 sc3 sf0 sf1 sf2 sf3 hh hn
        go_wp2_with fail
        go_region_law ((first
            | (refine step_append_pair _ rfl (.tmp 85) (.tmp 87) rfl w4.heap.size v1 s.fields (by simp [Act.eval, Act.put]) HO1.out _ [(k, v)] (by simp [Act.eval, Act.put]) HQ1.out (by simp; omega) k1.size ?_; intro v2 wz hown2 hgrow2; have HO2 := Lib.hid hown2; have k2 : Kept w4 wz := k1.trans' (grown_below (HO1.out) hgrow2 k1.size); obtain ⟨zc, zf, zs⟩ := HCZ.out _ k2; have HR5 := Lib.hid (And.intro (Prs.own hown2) (Fresh.own hown2)); obtain ⟨a2, n2, c2, hv2⟩ := Prs.form (Prs.own hown2); clear hown2 hgrow2 HO2; subst hv2)
            | (refine step_append_pair _ rfl (.tmp 85) (.tmp 87) rfl w4.heap.size v1 s.fields (by simp [Act.eval, Act.put]) (HO1.out.alloc _) _ [(k, v)] (by simp [Act.eval, Act.put]) (new_pair _ k v) (by simp; omega) (k1.trans (kept_alloc _ _)).size ?_; intro v2 wz hown2 hgrow2; have HO2 := Lib.hid hown2; have k2 : Kept w4 wz := (k1.trans (kept_alloc _ _)).trans' (grown_below ((HO1.out.alloc _)) hgrow2 (k1.trans (kept_alloc _ _)).size); obtain ⟨zc, zf, zs⟩ := HCZ.out _ k2; have HR5 := Lib.hid (And.intro (Prs.own hown2) (Fresh.own hown2)); obtain ⟨a2, n2, c2, hv2⟩ := Prs.form (Prs.own hown2); clear hown2 hgrow2 HO2; subst hv2)
            | (refine step_append_pair _ rfl (.tmp 82) (.tmp 84) rfl w4.heap.size _ [] (by simp [Act.eval, Act.put]) HOA.out _ s.fields (by simp [Act.eval, Act.put]) (HV0.out.kept hKEQ) (by simp; omega) hKEQ.size ?_; intro v1 wa hown1 hgrow1; have HO1 : Hid (wa.ownsRow w4.heap.size 62 2 v1 s.fields.length (pairC s.fields)) := hown1; have k1 : Kept w4 wa := hKEQ.trans' (grown_below HOA.out hgrow1 hKEQ.size); have HQ1 := Lib.hid (HQA.out.only (Only.grown hgrow1) (by simp [Value.ownBlock])); have qa0 : wa.cell? ⟨B + 2, 0, none⟩ = some (.string (bs k)) := (HP4.out.kept k1).cell 0 _ rfl; have qa1 : wa.cell? ⟨B + 2, 1, none⟩ = some (.string (bs v)) := (HP4.out.kept k1).cell 1 _ rfl; have qa2 : B + 2 < wa.heap.size := (HP4.out.kept k1).lt; clear hown1 hgrow1)
            | (refine step_append_pair _ rfl (.tmp 82) (.tmp 84) rfl w4.heap.size _ [] (by simp [Act.eval, Act.put]) HOB.out _ s.fields (by simp [Act.eval, Act.put]) (HV0.out.kept hKQE) (by simp; omega) hKQE.size ?_; intro v1 wa hown1 hgrow1; have HO1 : Hid (wa.ownsRow w4.heap.size 62 2 v1 s.fields.length (pairC s.fields)) := hown1; have k1 : Kept w4 wa := hKQE.trans' (grown_below HOB.out hgrow1 hKQE.size); have HQ1 := Lib.hid (HQB.out.only (Only.grown hgrow1) (by simp [Value.ownBlock])); have qa0 : wa.cell? ⟨B + 2, 0, none⟩ = some (.string (bs k)) := (HP4.out.kept k1).cell 0 _ rfl; have qa1 : wa.cell? ⟨B + 2, 1, none⟩ = some (.string (bs v)) := (HP4.out.kept k1).cell 1 _ rfl; have qa2 : B + 2 < wa.heap.size := (HP4.out.kept k1).lt; clear hown1 hgrow1)
            | (refine step_append_pair _ rfl (.tmp 82) (.tmp 84) rfl w4.heap.size _ [] (by simp [Act.eval, Act.put]) HOC.out _ s.fields (by simp [Act.eval, Act.put]) (HV0.out.kept hKE) (by simp; omega) hKE.size ?_; intro v1 wa hown1 hgrow1; have HO1 : Hid (wa.ownsRow w4.heap.size 62 2 v1 s.fields.length (pairC s.fields)) := hown1; have k1 : Kept w4 wa := hKE.trans' (grown_below HOC.out hgrow1 hKE.size); have qa0 : wa.cell? ⟨B + 2, 0, none⟩ = some (.string (bs k)) := (HP4.out.kept k1).cell 0 _ rfl; have qa1 : wa.cell? ⟨B + 2, 1, none⟩ = some (.string (bs v)) := (HP4.out.kept k1).cell 1 _ rfl; have qa2 : B + 2 < wa.heap.size := (HP4.out.kept k1).lt; clear hown1 hgrow1)))
        all_goals
          have HKZ := Lib.hid (HK4.out.trans k2)
          have HSZ := Lib.hid (HS4.out.kept k2)
          have HRZ := Lib.hid (HR4.out.kept k2)
          have hz4 : w.heap.size ≤ w4.heap.size := HK4.out.size
          have hb4 : B + 2 < w4.heap.size := HP4.out.lt
          clear zc zf zs HCZ k2 HC HCS HV0 qa0 qa1 qa2 HOA HOB HOC HQA HQB sc4 pc0 pc1 sf4 sz rz pz HN HFD
          have sc0 : wz.cell? ⟨B, 0, none⟩ = some (.string (bs s.key)) := HSZ.out.cell 0 _ rfl
          have sc1 : wz.cell? ⟨B, 1, none⟩ = some (.string (bs s.type)) := HSZ.out.cell 1 _ rfl
          have sc2 : wz.cell? ⟨B, 2, none⟩ = some (.slice aA s.author.length cA) := HSZ.out.cell 2 _ rfl
          have sc3 : wz.cell? ⟨B, 3, none⟩ = some (.slice aE s.editor.length cE) := HSZ.out.cell 3 _ rfl
          have sc4 : wz.cell? ⟨B, 4, none⟩ = some (.slice aF s.fields.length cF) := HSZ.out.cell 4 _ rfl
          have rc0 : wz.cell? ⟨B + 1, 0, none⟩ = some (.string (bs [])) := HRZ.out.cell 0 _ rfl
          have rc1 : wz.cell? ⟨B + 1, 1, none⟩ = some (.string (bs [])) := HRZ.out.cell 1 _ rfl
          have rc2 : wz.cell? ⟨B + 1, 2, none⟩ = some (.slice none 0 0) := HRZ.out.cell 2 _ rfl
          have rc3 : wz.cell? ⟨B + 1, 3, none⟩ = some (.slice none 0 0) := HRZ.out.cell 3 _ rfl
          have rc4 : wz.cell? ⟨B + 1, 4, none⟩ = some (.slice none 0 0) := HRZ.out.cell 4 _ rfl
          have rf0 := HRZ.out.free 0
          have rf1 := HRZ.out.free 1
          have rf2 := HRZ.out.free 2
          have rf3 := HRZ.out.free 3
          have rf4 := HRZ.out.free 4
          have sz := HSZ.out.lt
          have rz := HRZ.out.lt
          go_wp2_with fail
          have hK := kept5at (kept_set HKZ.out B 4 (.slice a2 n2 c2) (by omega)) (B := B + 1) (by omega) (v0 := .string (bs s.key)) (v1 := .string (bs s.type)) (v2 := .slice aA s.author.length cA) (v3 := .slice aE s.editor.length cE) (v4 := .slice a2 n2 c2)
          have hO := (only_set (S := fun i => i ≤ B + 1) wz B 4 (.slice a2 n2 c2) (by omega)).trans (only5 (B := B + 1) (v0 := .string (bs s.key)) (v1 := .string (bs s.type)) (v2 := .slice aA s.author.length cA) (v3 := .slice aE s.editor.length cE) (v4 := .slice a2 n2 c2) (Nat.le_refl _))
          refine bodyPost_ret (v := .tuple #[srcV s.key s.type (.slice aA s.author.length cA) (.slice aE s.editor.length cE) (.slice a2 n2 c2), .int .i64 0]) (by simp [results, Tryz.results47, go_sem, rz, rc0, rc1, rc2, rc3, rc4]) rfl ?_
          refine ⟨_, _, _, _, _, _, _, _, _, _, _, rfl, ?_, hK⟩
          exact ⟨rfl, rfl, HI.out.a.kept hK, HI.out.e.kept hK, HR5.out.1.away HR5.out.2 hO (fun i q => by omega), .inl (by first | rfl | exact ⟨rfl, rfl, rfl⟩), .inl (by first | rfl | exact ⟨rfl, rfl, rfl⟩), .inr (fun g o n c q hn => by have := HR5.out.2 g o n c q hn; omega)⟩
    · rw [hh, if_pos rfl] at HAD
      obtain ⟨rfl, rfl⟩ := Prod.mk.inj HAD.out
      go_wp2_with fail
      have hK := kept5at HK4.out (B := B + 1) (by omega) (v0 := .string (bs s.key)) (v1 := .string (bs s.type)) (v2 := .slice aA s.author.length cA) (v3 := .slice aE s.editor.length cE) (v4 := .slice aF s.fields.length cF)
      refine bodyPost_ret (v := .tuple #[srcV s.key s.type (.slice aA s.author.length cA) (.slice aE s.editor.length cE) (.slice aF s.fields.length cF), .int .i64 7]) (by simp [results, Tryz.results47, go_sem, rz, rc0, rc1, rc2, rc3, rc4]) rfl ?_
      exact ⟨_, _, _, _, _, _, _, _, _, _, _, rfl, fun h => by simp at h, hK⟩
end Go.Proofs.YteflhlbgbgamnaaGreatDoor
