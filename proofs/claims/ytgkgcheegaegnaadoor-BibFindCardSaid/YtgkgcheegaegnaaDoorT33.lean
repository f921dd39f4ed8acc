/- bib.Find and ref30.Find. Conditions: lengths. -/
import Derived.Test.YtgkgcheegaegnaaDoorT19
import Derived.Test.YtgkgcheegaegnaaDoorT25
import Derived.Test.YtgkgcheegaegnaaDoorT30

set_option linter.all false
namespace Go.Proofs.YtgkgcheegaegnaaDoor
open Go.RowKit

def findS (ss : List SrcT) (k : Bs) : Option SrcT := ss.find? fun s => s.key == k
theorem findS_at (ss : List SrcT) (k : Bs) (n : Nat) (s : SrcT) (hx : ss[n]? = some s) (hb : ∀ x ∈ ss.take n, (x.key == k) = false) (hk : (s.key == k) = true) : findS ss k = some s := by
  obtain ⟨hk', rfl⟩ := List.getElem?_eq_some_iff.1 hx
  unfold findS
  have e : ss = ss.take n ++ ss[n] :: ss.drop (n + 1) := by rw [← List.drop_eq_getElem_cons hk', List.take_append_drop]
  conv => lhs; rw [e]
  rw [List.find?_append, List.find?_eq_none.2 (by intro x h; rw [hb x h]; simp), List.find?_cons_of_pos (by simpa using hk)]
  rfl
theorem findS_none (ss : List SrcT) (k : Bs) (hb : ∀ x ∈ ss, (x.key == k) = false) : findS ss k = none := by
  unfold findS
  rw [List.find?_eq_none]
  intro x h; rw [hb x h]; simp
theorem kept5 {w wr : World} {v0 v1 v2 v3 v4 : Value} (h : Kept w wr) : Kept w (((((wr.setCell ⟨w.heap.size, 0, none⟩ v0).setCell ⟨w.heap.size, 1, none⟩ v1).setCell ⟨w.heap.size, 2, none⟩ v2).setCell ⟨w.heap.size, 3, none⟩ v3).setCell ⟨w.heap.size, 4, none⟩ v4) :=
  kept_set (kept_set (kept_set (kept_set (kept_set h _ _ _ (Nat.le_refl _)) _ _ _ (Nat.le_refl _)) _ _ _ (Nat.le_refl _)) _ _ _ (Nat.le_refl _)) _ _ _ (Nat.le_refl _)
theorem only_set {S : Nat → Prop} (w : World) (g o : Nat) (v : Value) (h : S g) : Only S w (w.setCell ⟨g, o, none⟩ v) := (Only.setCell g o v).mono (fun i _ e => e ▸ h)
theorem only5 {S : Nat → Prop} {w : World} {B : Nat} {v0 v1 v2 v3 v4 : Value} (h : S B) : Only S w (((((w.setCell ⟨B, 0, none⟩ v0).setCell ⟨B, 1, none⟩ v1).setCell ⟨B, 2, none⟩ v2).setCell ⟨B, 3, none⟩ v3).setCell ⟨B, 4, none⟩ v4) :=
  ((((only_set _ _ _ _ h).trans (only_set _ _ _ _ h)).trans (only_set _ _ _ _ h)).trans (only_set _ _ _ _ h)).trans (only_set _ _ _ _ h)
def FindPost (o : Option SrcT) (w : World) (e : Ending) (w' : World) : Prop :=
  ∃ vA vE vF, e = .returned (.tuple #[srcV (o.getD zeroS).key (o.getD zeroS).type vA vE vF, .bool o.isSome]) ∧ Perss w' vA (o.getD zeroS).author ∧ Perss w' vE (o.getD zeroS).editor ∧ Prs w' vF (o.getD zeroS).fields ∧ Kept w w'
set_option maxRecDepth 100000 in
set_option maxHeartbeats 3200000 in
theorem rfind_any (v : Value) (ss : List SrcT) (k : Bs) (w : World) (hv : Srcs w v ss) (hl : ss.length ≤ 1000000) :
    Calls Tryd.prog 7 #[v, .string (bs k)] w (FindPost (findS ss k) w) := by
  have HV := Lib.hid hv
  have HA := Lib.hid (findS_at ss k)
  have HNO := Lib.hid (findS_none ss k)
  obtain ⟨o, HO⟩ : ∃ o, Hid (findS ss k = o) := ⟨_, rfl⟩
  rw [HO.out] at HA HNO ⊢
  obtain ⟨a, c, rfl, hc, h3⟩ := hv
  clear h3
  unfold FindPost
  go_enter Tryd.func7, Tryd.ntmps7
  go_wp2_with fail
  go_loopw [10] (fun i wr => ∃ n : Nat, n ≤ ss.length ∧ i = .int .i64 n ∧ Hid (∀ x ∈ ss.take n, (x.key == k) = false) ∧ Hid (Blk wr w.heap.size 28 #[.string (bs []), .string (bs []), .slice none 0 0, .slice none 0 0, .slice none 0 0]) ∧ Hid (Kept w wr)) (fun i _ => ss.length - (intOf i).toNat)
  case atStart => exact ⟨0, Nat.zero_le _, rfl, fun x h => by simp at h, Blk.new w _ _, kept_alloc _ _⟩
  case round =>
    obtain ⟨n, hn, rfl, HN, HB, HKR⟩ := hrel
    have b0 : wr.cell? ⟨w.heap.size, 0, none⟩ = some (.string (bs [])) := HB.out.cell 0 _ rfl
    have b1 : wr.cell? ⟨w.heap.size, 1, none⟩ = some (.string (bs [])) := HB.out.cell 1 _ rfl
    have b2 : wr.cell? ⟨w.heap.size, 2, none⟩ = some (.slice none 0 0) := HB.out.cell 2 _ rfl
    have b3 : wr.cell? ⟨w.heap.size, 3, none⟩ = some (.slice none 0 0) := HB.out.cell 3 _ rfl
    have b4 : wr.cell? ⟨w.heap.size, 4, none⟩ = some (.slice none 0 0) := HB.out.cell 4 _ rfl
    have f0 := HB.out.free 0
    have f1 := HB.out.free 1
    have f2 := HB.out.free 2
    have f3 := HB.out.free 3
    have f4 := HB.out.free 4
    have z0 := HB.out.lt
    by_cases hlt : n < ss.length
    · obtain ⟨s, hx⟩ : ∃ x, ss[n]? = some x := ⟨_, List.getElem?_eq_getElem hlt⟩
      obtain ⟨a', c', hv', hc', h3⟩ := HV.out
      obtain ⟨rfl, hdead, rfl⟩ := Value.slice.inj hv'
      clear hdead hc'
      obtain ⟨g, o2, rfl, hg', hcc⟩ := h3 (by omega)
      obtain ⟨vA, vE, vF, t0, t1, t2, t3, t4, pA, pE, pF⟩ := hcc n s hx
      have d0 := (HKR.out.cell (p := ⟨g, _, none⟩) hg').trans t0
      have d1 := (HKR.out.cell (p := ⟨g, _, none⟩) hg').trans t1
      have d2 := (HKR.out.cell (p := ⟨g, _, none⟩) hg').trans t2
      have d3 := (HKR.out.cell (p := ⟨g, _, none⟩) hg').trans t3
      have d4 := (HKR.out.cell (p := ⟨g, _, none⟩) hg').trans t4
      clear t0 t1 t2 t3 t4
      have hg2 : g < wr.heap.size := Nat.lt_of_lt_of_le hg' HKR.out.size
      have HPS := Lib.hid (And.intro pA (And.intro pE pF))
      have HAT := Lib.hid (HA.out n s hx HN.out)
      obtain ⟨aA, cA, rfl, zA, zA'⟩ := pA
      obtain ⟨aE, cE, rfl, zE, zE'⟩ := pE
      obtain ⟨aF, cF, rfl, zF, zF'⟩ := pF
      clear zA zA' zE zE' zF zF'
      cases hxk : (s.key == k)
      · have HS : Hid (∀ x ∈ ss.take (n + 1), (x.key == k) = false) := by
          intro x hxm
          obtain ⟨hk', rfl⟩ := List.getElem?_eq_some_iff.1 hx
          rw [List.take_succ_eq_append_getElem hk'] at hxm
          rcases List.mem_append.1 hxm with h | h
          · exact HN.out x h
          · simp at h; subst h; exact hxk
        clear hcc h3 hv' hx HN HAT b0 b1 b2 b3 b4 f0 f1 f2 f3 f4 z0
        go_wp2_with fail
        go_roundw
        case rel => exact ⟨n + 1, by omega, by go_num, HS.out, HB.out.kept (kept_alloc _ _), HKR.out.trans (kept_alloc _ _)⟩
        case measure => simp [intOf]; omega
      · have HO2 := Lib.hid (HAT.out hxk)
        clear hcc h3 hv' hx HN HAT
        obtain rfl : s.key = k := by simpa using hxk
        clear hxk
        go_wp2_with fail
        have hK := (kept5 HKR.out (v0 := .string (bs s.key)) (v1 := .string (bs s.type)) (v2 := .slice aA s.author.length cA) (v3 := .slice aE s.editor.length cE) (v4 := .slice aF s.fields.length cF)).trans (kept_alloc _ (.cells #[.string (bs s.key), .string (bs s.type), .slice aA s.author.length cA, .slice aE s.editor.length cE, .slice aF s.fields.length cF] 28))
        refine bodyPost_ret (v := .tuple #[srcV s.key s.type (.slice aA s.author.length cA) (.slice aE s.editor.length cE) (.slice aF s.fields.length cF), .bool true]) (by simp [results, Tryd.results7, go_sem, b0, b1, b2, b3, b4, z0]) rfl ?_
        refine ⟨.slice aA s.author.length cA, .slice aE s.editor.length cE, .slice aF s.fields.length cF, by rw [HO2.out]; rfl, ?_, ?_, ?_, hK⟩
        · rw [HO2.out]; exact HPS.out.1.kept hK
        · rw [HO2.out]; exact HPS.out.2.1.kept hK
        · rw [HO2.out]; exact HPS.out.2.2.kept hK
    · have HE := Lib.hid (HNO.out (by have h := HN.out; rw [List.take_of_length_le (by omega)] at h; exact h))
      go_wp2_with fail
      have hK := kept5 HKR.out (v0 := .string (bs [])) (v1 := .string (bs [])) (v2 := .slice none 0 0) (v3 := .slice none 0 0) (v4 := .slice none 0 0)
      refine bodyPost_ret (v := .tuple #[srcV [] [] (.slice none 0 0) (.slice none 0 0) (.slice none 0 0), .bool false]) (by simp [results, Tryd.results7, go_sem, b0, b1, b2, b3, b4, z0]) rfl ?_
      refine ⟨.slice none 0 0, .slice none 0 0, .slice none 0 0, by rw [HE.out]; rfl, ?_, ?_, ?_, hK⟩
      · rw [HE.out]; exact Perss.none_ _
      · rw [HE.out]; exact Perss.none_ _
      · rw [HE.out]; exact Prs.none_ _
set_option maxRecDepth 100000 in
set_option maxHeartbeats 3200000 in
theorem find_any (v : Value) (ss : List SrcT) (k : Bs) (w : World) (hv : Srcs w v ss) (hl : ss.length ≤ 1000000) (hL : ∀ s ∈ ss, s.author.length ≤ 1000000 ∧ s.editor.length ≤ 1000000 ∧ s.fields.length ≤ 1000000) :
    Calls Tryd.prog 6 #[v, .string (bs k)] w (FindPost (findS ss k) w) := by
  have HV := Lib.hid hv
  have HA := Lib.hid (findS_at ss k)
  have HNO := Lib.hid (findS_none ss k)
  obtain ⟨o, HO⟩ : ∃ o, Hid (findS ss k = o) := ⟨_, rfl⟩
  rw [HO.out] at HA HNO ⊢
  obtain ⟨a, c, rfl, hc, h3⟩ := hv
  clear h3
  unfold FindPost
  go_enter Tryd.func6, Tryd.ntmps6
  go_wp2_with fail
  go_loopw [10] (fun i wr => ∃ n : Nat, n ≤ ss.length ∧ i = .int .i64 n ∧ Hid (∀ x ∈ ss.take n, (x.key == k) = false) ∧ Hid (Blk wr w.heap.size 28 #[.string (bs []), .string (bs []), .slice none 0 0, .slice none 0 0, .slice none 0 0]) ∧ Hid (Kept w wr)) (fun i _ => ss.length - (intOf i).toNat)
  case atStart => exact ⟨0, Nat.zero_le _, rfl, fun x h => by simp at h, Blk.new w _ _, kept_alloc _ _⟩
  case round =>
    obtain ⟨n, hn, rfl, HN, HB, HKR⟩ := hrel
    have b0 : wr.cell? ⟨w.heap.size, 0, none⟩ = some (.string (bs [])) := HB.out.cell 0 _ rfl
    have b1 : wr.cell? ⟨w.heap.size, 1, none⟩ = some (.string (bs [])) := HB.out.cell 1 _ rfl
    have b2 : wr.cell? ⟨w.heap.size, 2, none⟩ = some (.slice none 0 0) := HB.out.cell 2 _ rfl
    have b3 : wr.cell? ⟨w.heap.size, 3, none⟩ = some (.slice none 0 0) := HB.out.cell 3 _ rfl
    have b4 : wr.cell? ⟨w.heap.size, 4, none⟩ = some (.slice none 0 0) := HB.out.cell 4 _ rfl
    have f0 := HB.out.free 0
    have f1 := HB.out.free 1
    have f2 := HB.out.free 2
    have f3 := HB.out.free 3
    have f4 := HB.out.free 4
    have z0 := HB.out.lt
    by_cases hlt : n < ss.length
    · obtain ⟨s, hx⟩ : ∃ x, ss[n]? = some x := ⟨_, List.getElem?_eq_getElem hlt⟩
      obtain ⟨a', c', hv', hc', h3⟩ := HV.out
      obtain ⟨rfl, hdead, rfl⟩ := Value.slice.inj hv'
      clear hdead hc'
      obtain ⟨g, o2, rfl, hg', hcc⟩ := h3 (by omega)
      obtain ⟨vA, vE, vF, t0, t1, t2, t3, t4, pA, pE, pF⟩ := hcc n s hx
      have d0 := (HKR.out.cell (p := ⟨g, _, none⟩) hg').trans t0
      have d1 := (HKR.out.cell (p := ⟨g, _, none⟩) hg').trans t1
      have d2 := (HKR.out.cell (p := ⟨g, _, none⟩) hg').trans t2
      have d3 := (HKR.out.cell (p := ⟨g, _, none⟩) hg').trans t3
      have d4 := (HKR.out.cell (p := ⟨g, _, none⟩) hg').trans t4
      clear t0 t1 t2 t3 t4
      have hg2 : g < wr.heap.size := Nat.lt_of_lt_of_le hg' HKR.out.size
      have HL := Lib.hid (hL s (List.mem_of_getElem? hx))
      have HPS := Lib.hid (And.intro pA (And.intro pE pF))
      have HAT := Lib.hid (HA.out n s hx HN.out)
      obtain ⟨aA, cA, rfl, zA, zA'⟩ := pA
      obtain ⟨aE, cE, rfl, zE, zE'⟩ := pE
      obtain ⟨aF, cF, rfl, zF, zF'⟩ := pF
      clear zA zA' zE zE' zF zF'
      cases hxk : (s.key == k)
      · have HS : Hid (∀ x ∈ ss.take (n + 1), (x.key == k) = false) := by
          intro x hxm
          obtain ⟨hk', rfl⟩ := List.getElem?_eq_some_iff.1 hx
          rw [List.take_succ_eq_append_getElem hk'] at hxm
          rcases List.mem_append.1 hxm with h | h
          · exact HN.out x h
          · simp at h; subst h; exact hxk
        clear hcc h3 hv' hx HN HAT b0 b1 b2 b3 b4 f0 f1 f2 f3 f4 z0
        go_wp2_with fail
        go_roundw
        case rel => exact ⟨n + 1, by omega, by go_num, HS.out, HB.out.kept (kept_alloc _ _), HKR.out.trans (kept_alloc _ _)⟩
        case measure => simp [intOf]; omega
      · have HO2 := Lib.hid (HAT.out hxk)
        clear hcc h3 hv' hx HN HAT
        obtain rfl : s.key = k := by simpa using hxk
        clear hxk
        have HCA := Lib.hid (fun w h => cloneP_any (.slice aA s.author.length cA) s.author w h HL.out.1)
        have HCE := Lib.hid (fun w h => cloneP_any (.slice aE s.editor.length cE) s.editor w h HL.out.2.1)
        have HCF := Lib.hid (fun w h => cloneF_any (.slice aF s.fields.length cF) s.fields w h HL.out.2.2)
        have HBK := Lib.hid (Blk.new wr 28 #[.string (bs s.key), .string (bs s.type), .slice aA s.author.length cA, .slice aE s.editor.length cE, .slice aF s.fields.length cF])
        have HK0 := Lib.hid (HKR.out.trans (kept_alloc wr (.cells #[.string (bs s.key), .string (bs s.type), .slice aA s.author.length cA, .slice aE s.editor.length cE, .slice aF s.fields.length cF] 28)))
        have hwr : w.heap.size ≤ wr.heap.size := HKR.out.size
        go_wp2_with fail
        refine (HCA.out _ (HPS.out.1.kept HK0.out)).mono ?_
        rintro e w1 ⟨v1, rfl, hp1, hf1, hk1⟩
        have HP1 := Lib.hid hp1
        have HF1 : Hid (Fresh (wr.heap.size + 1) v1) := by show Fresh _ _; simpa using hf1
        have HB1 := Lib.hid (HBK.out.kept hk1)
        have HR1 := Lib.hid ((HB.out.kept (kept_alloc wr _)).kept hk1)
        have HK1 := Lib.hid (HK0.out.trans hk1)
        have HKA := Lib.hid (kept_set HK1.out wr.heap.size 2 v1 hwr)
        obtain ⟨a1, c1, rfl, y1, y2⟩ := hp1
        clear hk1 hf1 y1 y2 b0 b1 b2 b3 b4 f0 f1 f2 f3 f4 z0 d0 d1 d2 d3 d4 hg2 hg'
        have e2 : w1.cell? ⟨wr.heap.size, 2, none⟩ = some (.slice aA s.author.length cA) := HB1.out.cell 2 _ rfl
        have e3 : w1.cell? ⟨wr.heap.size, 3, none⟩ = some (.slice aE s.editor.length cE) := HB1.out.cell 3 _ rfl
        have f2 := HB1.out.free 2
        have z1 := HB1.out.lt
        go_wp2_with fail
        refine (HCE.out _ (HPS.out.2.1.kept HKA.out)).mono ?_
        rintro e w2 ⟨v2, rfl, hp2, hf2, hk2⟩
        have HP2 := Lib.hid hp2
        have HF2 : Hid (Fresh (wr.heap.size + 1) v2) := by
          show Fresh _ _
          intro g' o' n' c' he hn
          have := hf2 g' o' n' c' he hn
          rw [size_setCell] at this; omega
        have HB2 : Hid (Blk w2 wr.heap.size 28 #[.string (bs s.key), .string (bs s.type), .slice a1 s.author.length c1, .slice aE s.editor.length cE, .slice aF s.fields.length cF]) := (HB1.out.set 2 _).kept hk2
        have HR2 := Lib.hid ((HR1.out.other wr.heap.size 2 (.slice a1 s.author.length c1) (by have := HB.out.lt; omega)).kept hk2)
        have HO2A := Lib.hid ((only_set (S := fun i => i ≤ wr.heap.size) w1 wr.heap.size 2 (.slice a1 s.author.length c1) (Nat.le_refl _)).trans (Only.of_kept hk2))
        have HK2 := Lib.hid (HKA.out.trans hk2)
        have HKB := Lib.hid (kept_set HK2.out wr.heap.size 3 v2 hwr)
        obtain ⟨a2, c2, rfl, y1, y2⟩ := hp2
        clear hk2 hf2 y1 y2 e2 e3 f2 z1
        have e3 : w2.cell? ⟨wr.heap.size, 3, none⟩ = some (.slice aE s.editor.length cE) := HB2.out.cell 3 _ rfl
        have e4 : w2.cell? ⟨wr.heap.size, 4, none⟩ = some (.slice aF s.fields.length cF) := HB2.out.cell 4 _ rfl
        have f3 := HB2.out.free 3
        have z2 := HB2.out.lt
        go_wp2_with fail
        refine (HCF.out _ (HPS.out.2.2.kept HKB.out)).mono ?_
        rintro e w3 ⟨v3, rfl, hp3, hf3, hk3⟩
        have HP3 := Lib.hid hp3
        have HF3 : Hid (Fresh (wr.heap.size + 1) v3) := by
          show Fresh _ _
          intro g' o' n' c' he hn
          have := hf3 g' o' n' c' he hn
          rw [size_setCell] at this; omega
        have HB3 : Hid (Blk w3 wr.heap.size 28 #[.string (bs s.key), .string (bs s.type), .slice a1 s.author.length c1, .slice a2 s.editor.length c2, .slice aF s.fields.length cF]) := (HB2.out.set 3 _).kept hk3
        have HR3 := Lib.hid ((HR2.out.other wr.heap.size 3 (.slice a2 s.editor.length c2) (by have := HB.out.lt; omega)).kept hk3)
        have HO3A := Lib.hid ((only_set (S := fun i => i ≤ wr.heap.size) w2 wr.heap.size 3 (.slice a2 s.editor.length c2) (Nat.le_refl _)).trans (Only.of_kept hk3))
        have HK3 := Lib.hid (HKB.out.trans hk3)
        have HKC := Lib.hid (kept_set HK3.out wr.heap.size 4 v3 hwr)
        obtain ⟨a3, c3, rfl, y1, y2⟩ := hp3
        clear hk3 hf3 y1 y2 e3 e4 f3 z2
        have e0 : w3.cell? ⟨wr.heap.size, 0, none⟩ = some (.string (bs s.key)) := HB3.out.cell 0 _ rfl
        have e1 : w3.cell? ⟨wr.heap.size, 1, none⟩ = some (.string (bs s.type)) := HB3.out.cell 1 _ rfl
        have e2 : w3.cell? ⟨wr.heap.size, 2, none⟩ = some (.slice a1 s.author.length c1) := HB3.out.cell 2 _ rfl
        have e3 : w3.cell? ⟨wr.heap.size, 3, none⟩ = some (.slice a2 s.editor.length c2) := HB3.out.cell 3 _ rfl
        have e4 : w3.cell? ⟨wr.heap.size, 4, none⟩ = some (.slice aF s.fields.length cF) := HB3.out.cell 4 _ rfl
        have f4 := HB3.out.free 4
        have z3 := HB3.out.lt
        have b0 : w3.cell? ⟨w.heap.size, 0, none⟩ = some (.string (bs [])) := HR3.out.cell 0 _ rfl
        have b1 : w3.cell? ⟨w.heap.size, 1, none⟩ = some (.string (bs [])) := HR3.out.cell 1 _ rfl
        have b2 : w3.cell? ⟨w.heap.size, 2, none⟩ = some (.slice none 0 0) := HR3.out.cell 2 _ rfl
        have b3 : w3.cell? ⟨w.heap.size, 3, none⟩ = some (.slice none 0 0) := HR3.out.cell 3 _ rfl
        have b4 : w3.cell? ⟨w.heap.size, 4, none⟩ = some (.slice none 0 0) := HR3.out.cell 4 _ rfl
        have h0 := HR3.out.free 0
        have h1 := HR3.out.free 1
        have h2 := HR3.out.free 2
        have h3 := HR3.out.free 3
        have h4 := HR3.out.free 4
        have z4 := HR3.out.lt
        have hne : w.heap.size ≠ wr.heap.size := by have := HB.out.lt; omega
        go_wp2_with fail
        have HO4A := Lib.hid ((only_set (S := fun i => i ≤ wr.heap.size) w3 wr.heap.size 4 (.slice a3 s.fields.length c3) (Nat.le_refl _)).trans (only5 (B := w.heap.size) (v0 := .string (bs s.key)) (v1 := .string (bs s.type)) (v2 := .slice a1 s.author.length c1) (v3 := .slice a2 s.editor.length c2) (v4 := .slice a3 s.fields.length c3) hwr))
        have hK := kept5 HKC.out (v0 := .string (bs s.key)) (v1 := .string (bs s.type)) (v2 := .slice a1 s.author.length c1) (v3 := .slice a2 s.editor.length c2) (v4 := .slice a3 s.fields.length c3)
        refine bodyPost_ret (v := .tuple #[srcV s.key s.type (.slice a1 s.author.length c1) (.slice a2 s.editor.length c2) (.slice a3 s.fields.length c3), .bool true]) (by simp [results, Tryd.results6, go_sem, b0, b1, b2, b3, b4, z4, hne]) rfl ?_
        refine ⟨.slice a1 s.author.length c1, .slice a2 s.editor.length c2, .slice a3 s.fields.length c3, by rw [HO2.out]; rfl, ?_, ?_, ?_, hK⟩
        · rw [HO2.out]; exact HP1.out.away HF1.out ((HO2A.out.trans HO3A.out).trans HO4A.out) (fun i h => by omega)
        · rw [HO2.out]; exact HP2.out.away HF2.out (HO3A.out.trans HO4A.out) (fun i h => by omega)
        · rw [HO2.out]; exact HP3.out.away HF3.out HO4A.out (fun i h => by omega)
    · have HE := Lib.hid (HNO.out (by have h := HN.out; rw [List.take_of_length_le (by omega)] at h; exact h))
      go_wp2_with fail
      have hK := kept5 HKR.out (v0 := .string (bs [])) (v1 := .string (bs [])) (v2 := .slice none 0 0) (v3 := .slice none 0 0) (v4 := .slice none 0 0)
      refine bodyPost_ret (v := .tuple #[srcV [] [] (.slice none 0 0) (.slice none 0 0) (.slice none 0 0), .bool false]) (by simp [results, Tryd.results6, go_sem, b0, b1, b2, b3, b4, z0]) rfl ?_
      refine ⟨.slice none 0 0, .slice none 0 0, .slice none 0 0, by rw [HE.out]; rfl, ?_, ?_, ?_, hK⟩
      · rw [HE.out]; exact Perss.none_ _
      · rw [HE.out]; exact Perss.none_ _
      · rw [HE.out]; exact Prs.none_ _
end Go.Proofs.YtgkgcheegaegnaaDoor

/- bib.Text. Conditions: lengths. -/
set_option linter.all false
namespace Go.Proofs.YtgkgcheegaegnaaDoor
open Go.RowKit

/-- The lines written so far. -/
structure OutB (w0 : World) (v : Value) (xs : List Bs) (wr : World) : Prop where
  own : wr.ownsRow w0.heap.size 9 1 v xs.length (strCells xs)
  kept : Kept w0 wr
/-- The lines written so far, beside the block of the source in hand. -/
structure OutI (w0 : World) (sb : Nat) (cs : Array Value) (v : Value) (xs : List Bs) (wr : World) : Prop where
  own : wr.ownsRow w0.heap.size 9 1 v xs.length (strCells xs)
  blk : Blk wr sb 28 cs
  ne : v.ownBlock ≠ some sb
  kept : Kept w0 wr
theorem OutB.hold {w0 : World} {v : Value} {xs : List Bs} {wr : World} (h : OutB w0 v xs wr) (cs : Array Value) : OutI w0 wr.heap.size cs v xs (wr.alloc (.cells cs 28)) :=
  ⟨own_kept h.own (kept_alloc _ _), Blk.new wr _ cs, fun q => own_ne h.own wr.heap.size (Nat.le_refl _) q.symm, h.kept.trans (kept_alloc _ _)⟩
theorem OutI.drop {w0 : World} {sb : Nat} {cs : Array Value} {v : Value} {xs : List Bs} {wr : World} (h : OutI w0 sb cs v xs wr) : OutB w0 v xs wr := ⟨h.own, h.kept⟩
theorem OutI.next {w0 : World} {sb : Nat} {cs : Array Value} {v : Value} {xs : List Bs} {wr w' : World} (h : OutI w0 sb cs v xs wr) (k : Kept wr w') : OutI w0 sb cs v xs w' :=
  ⟨own_kept h.own k, h.blk.kept k, h.ne, h.kept.trans k⟩
theorem OutI.push {w0 : World} {sb : Nat} {cs : Array Value} {v : Value} {xs : List Bs} {wr w' : World} {y : Bs} {g cap H : Nat} (h : OutI w0 sb cs v xs wr)
    (ho : w'.ownsRow w0.heap.size 9 1 (.slice (some ⟨g, 0, none⟩) (xs.length + 1) cap) (xs.length + 1) (strCells xs ++ [.string (bs y)])) (hg : wr.grownBy w' v.ownBlock) (hat : v.ownBlock = some g ∨ g = H) (hH : wr.heap.size = H) :
    OutI w0 sb cs (.slice (some ⟨g, 0, none⟩) (xs.length + 1) cap) (xs ++ [y]) w' := by
  refine ⟨?_, ?_, ?_, ?_⟩
  · rw [← strCells_snoc] at ho
    simpa using ho
  · exact (hg.block sb h.blk.lt (fun q => h.ne q.symm)).trans h.blk
  · intro q
    simp [Value.ownBlock] at q
    subst q
    rcases hat with e | e
    · exact h.ne e
    · have := h.blk.lt; omega
  · exact h.kept.trans' (grown_below h.own hg h.kept.size)
theorem textR_len (f g p s : Bs) : (textR f g p s).length ≤ f.length + g.length + p.length + s.length + 9 := by
  unfold textR textS
  split
  · simp only [List.length_append]
    split <;> split <;> (try split) <;> simp <;> omega
  · simp
theorem pers_next (ps : List P4) (h : Bs) (k : Nat) (p : P4) (hx : ps[k]? = some p) : (ps.take (k + 1)).map (persLine h) = (ps.take k).map (persLine h) ++ [persLine h p] := by
  obtain ⟨hk, rfl⟩ := List.getElem?_eq_some_iff.1 hx
  rw [List.take_succ_eq_append_getElem hk, List.map_append]; rfl
theorem pers_len (ps : List P4) (h : Bs) (k : Nat) : ((ps.take k).map (persLine h)).length ≤ ps.length := by simp; omega
theorem fld_next (ps : List Pr) (k : Nat) (p : Pr) (hx : ps[k]? = some p) : (ps.take (k + 1)).map fldLine = (ps.take k).map fldLine ++ [fldLine p] := by
  obtain ⟨hk, rfl⟩ := List.getElem?_eq_some_iff.1 hx
  rw [List.take_succ_eq_append_getElem hk, List.map_append]; rfl
theorem fld_len (ps : List Pr) (k : Nat) : ((ps.take k).map fldLine).length ≤ ps.length := by simp; omega
set_option maxRecDepth 100000 in
set_option maxHeartbeats 12800000 in
theorem btext_any (v : Value) (ss : List SrcT) (w : World) (hg : Gnd w) (hv : Srcs w v ss) (hs : ∀ s ∈ ss, SmallS s) (hl : ss.length ≤ 1000000) (hj : (joinLn (outL ss)).length ≤ 100000000) :
    Calls Tryd.prog 15 #[v] w fun e w' => e = .returned (.tuple #[.string (bs (textL ss)), .int .i64 (checkE ss)]) ∧ Kept w w' := by
  obtain ⟨i0', hi', hz0, hz1, hz2⟩ := info_parts Tryd.infoStr
  have HV := Lib.hid hv
  have HCK := Lib.hid (check_any v ss w hg hv hs hl)
  have HTX : Hid (textL ss = if checkE ss = 0 then joinLn (outL ss) else []) := rfl
  have HCS := Lib.hid (chk_src ss)
  generalize checkE ss = E at *
  generalize textL ss = X at *
  obtain ⟨a, c, rfl, hc, hh⟩ := hv
  clear hh
  by_cases hE : E = 0
  case neg =>
    rw [if_neg hE] at HTX
    go_enter Tryd.func15, Tryd.ntmps15
    go_wp2_with fail
    refine (HCK.out).mono ?_
    rintro e w1 ⟨rfl, hk1⟩
    have HK1 := Lib.hid hk1
    clear hk1
    go_wp2_with fail
    go_ret2
    exact ⟨by rw [HTX.out]; rfl, HK1.out⟩
  subst hE
  rw [if_pos rfl] at HTX
  obtain ⟨hl256, hsrc⟩ := HCS.out rfl
  have HSRC := Lib.hid hsrc
  have HLEN := Lib.hid (outL_len ss hsrc)
  have HNEXT := Lib.hid (outL_snoc ss)
  clear hsrc HCS
  go_enter Tryd.func15, Tryd.ntmps15
  go_wp2_with fail
  refine (HCK.out).mono ?_
  rintro e w1 ⟨rfl, hk1⟩
  have HK1 := Lib.hid hk1
  have HG1 := Lib.hid (hg.kept hk1)
  have HV1 := Lib.hid (HV.out.kept hk1)
  clear hk1 HV HCK
  go_wp2_with fail
  go_loopw [5, 25] (fun v i wr => ∃ k : Nat, k ≤ ss.length ∧ i = .int .i64 k ∧ Hid (OutB w1 v (outL (ss.take k)) wr)) (fun _ i _ => ss.length - (intOf i).toNat)
  case atStart => exact ⟨0, Nat.zero_le _, rfl, ⟨by simpa [outL, strCells] using World.ownsRow_nil w1 w1.heap.size 9 1, Kept.refl _⟩⟩
  case round =>
    obtain ⟨k, hk, rfl, HB⟩ := hrel
    by_cases hlt : k < ss.length
    case neg =>
      obtain rfl : k = ss.length := by omega
      rw [List.take_of_length_le (Nat.le_refl _)] at HB
      have HLN := Lib.hid (HLEN.out ss.length (Nat.le_refl _))
      rw [List.take_of_length_le (Nat.le_refl _)] at HLN
      have HJ := Lib.hid (ljoin_any _ (outL ss) wr (Strs.own HB.out.own) (by have := HLN.out; omega) hj)
      rw [← HTX.out] at HJ
      clear HLEN HNEXT HSRC
      go_wp2_with fail
      refine (HJ.out).mono ?_
      rintro e w2 ⟨rfl, hk2⟩
      have HK2 := Lib.hid ((HK1.out.trans HB.out.kept).trans hk2)
      clear hk2
      go_wp2_with fail
      go_ret2
      exact ⟨rfl, HK2.out⟩
    obtain ⟨s, hx⟩ : ∃ x, ss[k]? = some x := ⟨_, List.getElem?_eq_getElem hlt⟩
    have HSM := Lib.hid (hs s (List.mem_of_getElem? hx))
    obtain ⟨hA32, hE32, hF24, _⟩ := srcE_parts s (HSRC.out k s hx)
    have HNX := Lib.hid (HNEXT.out k s hx)
    have hlen := HLEN.out k hk
    obtain ⟨a', c', hv', hc', h3⟩ := HV1.out
    obtain ⟨rfl, hdead, rfl⟩ := Value.slice.inj hv'
    clear hdead hc'
    obtain ⟨g, o, rfl, hg1, hcc⟩ := h3 (by omega)
    obtain ⟨vA, vE, vF, s0, s1, s2, s3, s4, pA, pE, pF⟩ := hcc k s hx
    have t0 := (HB.out.kept.cell (p := ⟨g, _, none⟩) hg1).trans s0
    have t1 := (HB.out.kept.cell (p := ⟨g, _, none⟩) hg1).trans s1
    have t2 := (HB.out.kept.cell (p := ⟨g, _, none⟩) hg1).trans s2
    have t3 := (HB.out.kept.cell (p := ⟨g, _, none⟩) hg1).trans s3
    have t4 := (HB.out.kept.cell (p := ⟨g, _, none⟩) hg1).trans s4
    have hg' : g < wr.heap.size := Nat.lt_of_lt_of_le hg1 HB.out.kept.size
    clear s0 s1 s2 s3 s4
    have hsz1 := HB.out.kept.size
    have HP1 := Lib.hid pA
    have HP2 := Lib.hid pE
    have HP3 := Lib.hid pF
    obtain ⟨aA, cA, rfl, zA, zA'⟩ := pA
    obtain ⟨aE, cE, rfl, zE, zE'⟩ := pE
    obtain ⟨aF, cF, rfl, zF, zF'⟩ := pF
    clear zA' zE' zF'
    have HSM1 := Lib.hid HSM.out.1
    have HSM2 := Lib.hid HSM.out.2.1
    have HSM3 := Lib.hid HSM.out.2.2.1
    have HSRCL : Hid (srcLines s = [headLine s] ++ s.author.map (persLine hAuthor) ++ s.editor.map (persLine hEditor) ++ s.fields.map fldLine ++ [[125]]) := rfl
    have HHL : Hid (headLine s = 64 :: (s.type ++ 123 :: (s.key ++ [44]))) := by show _ = _; simp [headLine]
    have hkl : s.key.length ≤ 1000000 := HSM.out.2.2.2.2.2.2.1
    have htl : s.type.length ≤ 1000000 := HSM.out.2.2.2.2.2.2.2
    have HIN := Lib.hid (HB.out.hold #[.string (bs s.key), .string (bs s.type), .slice aA s.author.length cA, .slice aE s.editor.length cE, .slice aF s.fields.length cF])
    have HKW := Lib.hid HB.out.kept
    clear hcc h3 hv' hx HB HSM
    obtain ⟨key, type, au, ed, fs⟩ := s
    simp only at *
    generalize headLine ⟨key, type, au, ed, fs⟩ = hdl at *
    generalize srcLines ⟨key, type, au, ed, fs⟩ = sls at *
    generalize outL (ss.take k) = xs0 at *
    generalize wr = wo at *
    have hxl0 : xs0.length ≤ 24000 := by omega
    by_cases hk0 : k = 0
    · rw [if_pos hk0, List.append_nil] at HNX
      have hkd : decide (0 < k) = false := by simp; omega
      clear hk0
      obtain ⟨ys5, HY5⟩ : ∃ ys : List Bs, Hid ((xs0 : List Bs) = ys) := ⟨_, Lib.hid rfl⟩
      rw [HY5.out] at HIN
      have hyl5 : ys5.length ≤ 30000 := by rw [← HY5.out]; first | omega | (simp only [List.length_append, List.length_map, List.length_cons, List.length_nil]; omega)
      go_wp2_with (at_builtin; refine wpList_append_lies _ rfl _ _ 55 rfl w1.heap.size 9 i0' (.string ⟨#[]⟩) 1 16 Tryd.underlying55 hi' hz0 hz1 hz2 rfl (by decide) _ _ _ rfl (HIN.out.next (kept_alloc _ _)).own ⟨wo.heap.size + 1, 0, none⟩ 1 1 [.string (bs (64 :: (type ++ 123 :: (key ++ [44]))))] rfl rfl ?_ ?_ ?_ ?_ ?_ ?_ _ rfl ?_)
      · exact new_cells _ #[.string (bs (64 :: (type ++ 123 :: (key ++ [44]))))] _ _ (by simp)
      · intro u hu; simp at hu; subst hu; rfl
      · decide
      · unfold maxLen; omega
      · omega
      · have := HIN.out.kept.size; first | omega | (simp only [World.size_alloc] at this; omega) | (simp only [World.size_alloc]; omega) | (simp only [World.size_alloc] at this ⊢; omega)
      intro g5 cap5 w5 hown5 hgrow5 hat5 hlt5
      have HO5 := Lib.hid ((HIN.out.next (kept_alloc _ _)).push hown5 hgrow5 hat5 (by first | rfl | simp))
      obtain ⟨vv5, hvv⟩ : ∃ v, Value.slice (some ⟨g5, 0, none⟩) (ys5.length + 1) cap5 = v := ⟨_, rfl⟩
      rw [hvv] at HO5 ⊢
      clear hvv
      rw [← HY5.out] at HO5 HIN
      clear hyl5
      clear hown5 hgrow5 hat5 hlt5
      rw [← HHL.out] at HO5
      have HSZ : Hid (∀ {v xs w}, OutI w1 wo.heap.size #[.string (bs key), .string (bs type), .slice aA au.length cA, .slice aE ed.length cE, .slice aF fs.length cF] v xs w → Kept w1 w) := fun h => h.kept
      have e2 : w5.cell? ⟨wo.heap.size, 2, none⟩ = some (.slice aA au.length cA) := HO5.out.blk.cell 2 _ rfl
      have zb := HO5.out.blk.lt
      go_wp2_with fail
      clear e2 zb
      go_loopw [5, 49] (fun v i wr => ∃ k : Nat, k ≤ au.length ∧ i = .int .i64 k ∧ Hid (OutI w1 wo.heap.size #[.string (bs key), .string (bs type), .slice aA au.length cA, .slice aE ed.length cE, .slice aF fs.length cF] v ((xs0 ++ [hdl]) ++ (au.take k).map (persLine hAuthor)) wr)) (fun _ i _ => au.length - (intOf i).toNat)
      case atStart => exact ⟨0, Nat.zero_le _, rfl, Lib.hid (by simpa using HO5.out)⟩
      case round =>
        obtain ⟨k1, hk1, rfl, HI1⟩ := hrel
        by_cases hlt1 : k1 < au.length
        case pos =>
          obtain ⟨p, hx⟩ : ∃ x, au[k1]? = some x := ⟨_, List.getElem?_eq_getElem hlt1⟩
          have HN1 := Lib.hid (pers_next au hAuthor k1 p hx)
          have HSM := Lib.hid (HSM1.out p (List.mem_of_getElem? hx))
          have hln := pers_len au hAuthor k1
          obtain ⟨a', c', hv', hc', h3'⟩ := HP1.out.kept (HSZ.out HI1.out)
          obtain ⟨rfl, hdead, rfl⟩ := Value.slice.inj hv'
          clear hdead hc'
          obtain ⟨gp, op, rfl, hg', hcc⟩ := h3' (by omega)
          obtain ⟨d0, d1, d2, d3⟩ := hcc k1 p hx
          have HLL : Hid (persLine hAuthor p = [97, 117, 116, 104, 111, 114, 32, 61, 32] ++ textR p.1 p.2.1 p.2.2.1 p.2.2.2) := rfl
          obtain ⟨pf, pg, pp, ps⟩ := p
          simp only at d0 d1 d2 d3 HSM HLL
          have HT := Lib.hid (fun w hg => text_any pf pg pp ps w hg (by have := HSM.out; omega))
          have HGR := Lib.hid (HG1.out.kept HI1.out.kept)
          have hXl := textR_len pf pg pp ps
          have hXs := HSM.out
          clear hcc h3' hv' hx
          generalize textE pf pg pp ps = E at *
          generalize textR pf pg pp ps = X at *
          generalize (au.take k1).map (persLine hAuthor) = pre at *
          go_wp2_with fail
          refine (HT.out _ (HGR.out.kept (kept_alloc _ _))).mono ?_
          rintro e w3 ⟨rfl, hk3⟩
          have HO3 := Lib.hid (HI1.out.next ((kept_alloc _ _).trans hk3))
          clear hk3 d0 d1 d2 d3 hg'
          obtain ⟨ys4, HY4⟩ : ∃ ys : List Bs, Hid (((xs0 ++ [hdl]) ++ pre : List Bs) = ys) := ⟨_, Lib.hid rfl⟩
          rw [HY4.out] at HO3
          have hyl4 : ys4.length ≤ 30000 := by rw [← HY4.out]; first | omega | (simp only [List.length_append, List.length_map, List.length_cons, List.length_nil]; omega)
          go_wp2_with (at_builtin; refine wpList_append_lies _ rfl _ _ 55 rfl w1.heap.size 9 i0' (.string ⟨#[]⟩) 1 16 Tryd.underlying55 hi' hz0 hz1 hz2 rfl (by decide) _ _ _ rfl (HO3.out.next (kept_alloc _ _)).own ⟨w3.heap.size, 0, none⟩ 1 1 [.string (bs ([97, 117, 116, 104, 111, 114, 32, 61, 32] ++ X))] rfl rfl ?_ ?_ ?_ ?_ ?_ ?_ _ rfl ?_)
          · exact new_cells _ #[.string (bs ([97, 117, 116, 104, 111, 114, 32, 61, 32] ++ X))] _ _ (by simp)
          · intro u hu; simp at hu; subst hu; rfl
          · decide
          · unfold maxLen; omega
          · omega
          · have := HO3.out.kept.size; first | omega | (simp only [World.size_alloc] at this; omega) | (simp only [World.size_alloc]; omega) | (simp only [World.size_alloc] at this ⊢; omega)
          intro g4 cap4 w4 hown4 hgrow4 hat4 hlt4
          have HO4 := Lib.hid ((HO3.out.next (kept_alloc _ _)).push hown4 hgrow4 hat4 (by first | rfl | simp))
          obtain ⟨vv4, hvv⟩ : ∃ v, Value.slice (some ⟨g4, 0, none⟩) (ys4.length + 1) cap4 = v := ⟨_, rfl⟩
          rw [hvv] at HO4 ⊢
          clear hvv
          rw [← HY4.out] at HO4 HO3
          clear hyl4
          clear hown4 hgrow4 hat4 hlt4
          go_wp2_with fail
          go_roundw
          case rel => exact ⟨k1 + 1, by omega, by go_num, by rw [HN1.out, HLL.out, ← List.append_assoc]; exact HO4.out⟩
          case measure => simp [intOf]; omega
        obtain rfl : k1 = au.length := by omega
        rw [List.take_of_length_le (Nat.le_refl _)] at HI1
        clear hlt1 hk1
        have e3 : wr.cell? ⟨wo.heap.size, 3, none⟩ = some (.slice aE ed.length cE) := HI1.out.blk.cell 3 _ rfl
        have zb := HI1.out.blk.lt
        go_wp2_with fail
        clear e3 zb
        go_loopw [5, 67] (fun v i wr => ∃ k : Nat, k ≤ ed.length ∧ i = .int .i64 k ∧ Hid (OutI w1 wo.heap.size #[.string (bs key), .string (bs type), .slice aA au.length cA, .slice aE ed.length cE, .slice aF fs.length cF] v ((xs0 ++ [hdl] ++ au.map (persLine hAuthor)) ++ (ed.take k).map (persLine hEditor)) wr)) (fun _ i _ => ed.length - (intOf i).toNat)
        case atStart => exact ⟨0, Nat.zero_le _, rfl, Lib.hid (by simpa using HI1.out)⟩
        case round =>
          obtain ⟨k2, hk2, rfl, HI2⟩ := hrel
          by_cases hlt2 : k2 < ed.length
          case pos =>
            obtain ⟨p, hx⟩ : ∃ x, ed[k2]? = some x := ⟨_, List.getElem?_eq_getElem hlt2⟩
            have HN2 := Lib.hid (pers_next ed hEditor k2 p hx)
            have HSM := Lib.hid (HSM2.out p (List.mem_of_getElem? hx))
            have hln := pers_len ed hEditor k2
            obtain ⟨a', c', hv', hc', h3'⟩ := HP2.out.kept (HSZ.out HI2.out)
            obtain ⟨rfl, hdead, rfl⟩ := Value.slice.inj hv'
            clear hdead hc'
            obtain ⟨gp, op, rfl, hg', hcc⟩ := h3' (by omega)
            obtain ⟨d0, d1, d2, d3⟩ := hcc k2 p hx
            have HLL : Hid (persLine hEditor p = [101, 100, 105, 116, 111, 114, 32, 61, 32] ++ textR p.1 p.2.1 p.2.2.1 p.2.2.2) := rfl
            obtain ⟨pf, pg, pp, ps⟩ := p
            simp only at d0 d1 d2 d3 HSM HLL
            have HT := Lib.hid (fun w hg => text_any pf pg pp ps w hg (by have := HSM.out; omega))
            have HGR := Lib.hid (HG1.out.kept HI2.out.kept)
            have hXl := textR_len pf pg pp ps
            have hXs := HSM.out
            clear hcc h3' hv' hx
            generalize textE pf pg pp ps = E at *
            generalize textR pf pg pp ps = X at *
            generalize (ed.take k2).map (persLine hEditor) = pre at *
            go_wp2_with fail
            refine (HT.out _ (HGR.out.kept (kept_alloc _ _))).mono ?_
            rintro e w3 ⟨rfl, hk3⟩
            have HO3 := Lib.hid (HI2.out.next ((kept_alloc _ _).trans hk3))
            clear hk3 d0 d1 d2 d3 hg'
            obtain ⟨ys4, HY4⟩ : ∃ ys : List Bs, Hid (((xs0 ++ [hdl] ++ au.map (persLine hAuthor)) ++ pre : List Bs) = ys) := ⟨_, Lib.hid rfl⟩
            rw [HY4.out] at HO3
            have hyl4 : ys4.length ≤ 30000 := by rw [← HY4.out]; first | omega | (simp only [List.length_append, List.length_map, List.length_cons, List.length_nil]; omega)
            go_wp2_with (at_builtin; refine wpList_append_lies _ rfl _ _ 55 rfl w1.heap.size 9 i0' (.string ⟨#[]⟩) 1 16 Tryd.underlying55 hi' hz0 hz1 hz2 rfl (by decide) _ _ _ rfl (HO3.out.next (kept_alloc _ _)).own ⟨w3.heap.size, 0, none⟩ 1 1 [.string (bs ([101, 100, 105, 116, 111, 114, 32, 61, 32] ++ X))] rfl rfl ?_ ?_ ?_ ?_ ?_ ?_ _ rfl ?_)
            · exact new_cells _ #[.string (bs ([101, 100, 105, 116, 111, 114, 32, 61, 32] ++ X))] _ _ (by simp)
            · intro u hu; simp at hu; subst hu; rfl
            · decide
            · unfold maxLen; omega
            · omega
            · have := HO3.out.kept.size; first | omega | (simp only [World.size_alloc] at this; omega) | (simp only [World.size_alloc]; omega) | (simp only [World.size_alloc] at this ⊢; omega)
            intro g4 cap4 w4 hown4 hgrow4 hat4 hlt4
            have HO4 := Lib.hid ((HO3.out.next (kept_alloc _ _)).push hown4 hgrow4 hat4 (by first | rfl | simp))
            obtain ⟨vv4, hvv⟩ : ∃ v, Value.slice (some ⟨g4, 0, none⟩) (ys4.length + 1) cap4 = v := ⟨_, rfl⟩
            rw [hvv] at HO4 ⊢
            clear hvv
            rw [← HY4.out] at HO4 HO3
            clear hyl4
            clear hown4 hgrow4 hat4 hlt4
            go_wp2_with fail
            go_roundw
            case rel => exact ⟨k2 + 1, by omega, by go_num, by rw [HN2.out, HLL.out, ← List.append_assoc]; exact HO4.out⟩
            case measure => simp [intOf]; omega
          obtain rfl : k2 = ed.length := by omega
          rw [List.take_of_length_le (Nat.le_refl _)] at HI2
          clear hlt2 hk2
          have e4 : wr.cell? ⟨wo.heap.size, 4, none⟩ = some (.slice aF fs.length cF) := HI2.out.blk.cell 4 _ rfl
          have zb := HI2.out.blk.lt
          go_wp2_with fail
          clear e4 zb
          go_loopw [5, 85] (fun v i wr => ∃ k : Nat, k ≤ fs.length ∧ i = .int .i64 k ∧ Hid (OutI w1 wo.heap.size #[.string (bs key), .string (bs type), .slice aA au.length cA, .slice aE ed.length cE, .slice aF fs.length cF] v ((xs0 ++ [hdl] ++ au.map (persLine hAuthor) ++ ed.map (persLine hEditor)) ++ (fs.take k).map fldLine) wr)) (fun _ i _ => fs.length - (intOf i).toNat)
          case atStart => exact ⟨0, Nat.zero_le _, rfl, Lib.hid (by simpa using HI2.out)⟩
          case round =>
            obtain ⟨k3, hk3, rfl, HI3⟩ := hrel
            by_cases hlt3 : k3 < fs.length
            case pos =>
              obtain ⟨p, hx⟩ : ∃ x, fs[k3]? = some x := ⟨_, List.getElem?_eq_getElem hlt3⟩
              have HN3 := Lib.hid (fld_next fs k3 p hx)
              have hln := fld_len fs k3
              obtain ⟨a', c', hv', hc', h3'⟩ := HP3.out.kept (HSZ.out HI3.out)
              obtain ⟨rfl, hdead, rfl⟩ := Value.slice.inj hv'
              clear hdead hc'
              obtain ⟨gp, op, rfl, hg', hcc⟩ := h3' (by omega)
              obtain ⟨d0, d1⟩ := hcc k3 p hx
              have HLL : Hid (fldLine p = p.1 ++ 32 :: 61 :: 32 :: p.2) := by show _ = _; simp [fldLine]
              obtain ⟨hx1, hx2⟩ := HSM3.out p (List.mem_of_getElem? hx)
              obtain ⟨x, y⟩ := p
              simp only at d0 d1 HLL hx1 hx2
              clear hcc h3' hv' hx
              generalize (fs.take k3).map fldLine = pre at *
              have HO3 := Lib.hid (HI3.out.next (kept_alloc _ (.cells #[.string (bs x), .string (bs y)] 42)))
              obtain ⟨ys4, HY4⟩ : ∃ ys : List Bs, Hid (((xs0 ++ [hdl] ++ au.map (persLine hAuthor) ++ ed.map (persLine hEditor)) ++ pre : List Bs) = ys) := ⟨_, Lib.hid rfl⟩
              rw [HY4.out] at HO3
              have hyl4 : ys4.length ≤ 30000 := by rw [← HY4.out]; first | omega | (simp only [List.length_append, List.length_map, List.length_cons, List.length_nil]; omega)
              go_wp2_with (at_builtin; refine wpList_append_lies _ rfl _ _ 55 rfl w1.heap.size 9 i0' (.string ⟨#[]⟩) 1 16 Tryd.underlying55 hi' hz0 hz1 hz2 rfl (by decide) _ _ _ rfl (HO3.out.next (kept_alloc _ _)).own ⟨wr.heap.size + 1, 0, none⟩ 1 1 [.string (bs (x ++ 32 :: 61 :: 32 :: y))] rfl rfl ?_ ?_ ?_ ?_ ?_ ?_ _ rfl ?_)
              · exact new_cells _ #[.string (bs (x ++ 32 :: 61 :: 32 :: y))] _ _ (by simp)
              · intro u hu; simp at hu; subst hu; rfl
              · decide
              · unfold maxLen; omega
              · omega
              · have := HO3.out.kept.size; first | omega | (simp only [World.size_alloc] at this; omega) | (simp only [World.size_alloc]; omega) | (simp only [World.size_alloc] at this ⊢; omega)
              intro g4 cap4 w4 hown4 hgrow4 hat4 hlt4
              have HO4 := Lib.hid ((HO3.out.next (kept_alloc _ _)).push hown4 hgrow4 hat4 (by first | rfl | simp))
              obtain ⟨vv4, hvv⟩ : ∃ v, Value.slice (some ⟨g4, 0, none⟩) (ys4.length + 1) cap4 = v := ⟨_, rfl⟩
              rw [hvv] at HO4 ⊢
              clear hvv
              rw [← HY4.out] at HO4 HO3
              clear hyl4
              clear hown4 hgrow4 hat4 hlt4
              go_wp2_with fail
              go_roundw
              case rel => exact ⟨k3 + 1, by omega, by go_num, by rw [HN3.out, HLL.out, ← List.append_assoc]; exact HO4.out⟩
              case measure => simp [intOf]; omega
            obtain rfl : k3 = fs.length := by omega
            rw [List.take_of_length_le (Nat.le_refl _)] at HI3
            clear hlt3 hk3
            obtain ⟨ys6, HY6⟩ : ∃ ys : List Bs, Hid (((xs0 ++ [hdl] ++ au.map (persLine hAuthor) ++ ed.map (persLine hEditor)) ++ fs.map fldLine : List Bs) = ys) := ⟨_, Lib.hid rfl⟩
            rw [HY6.out] at HI3
            have hyl6 : ys6.length ≤ 30000 := by rw [← HY6.out]; first | omega | (simp only [List.length_append, List.length_map, List.length_cons, List.length_nil]; omega)
            go_wp2_with (at_builtin; refine wpList_append_lies _ rfl _ _ 55 rfl w1.heap.size 9 i0' (.string ⟨#[]⟩) 1 16 Tryd.underlying55 hi' hz0 hz1 hz2 rfl (by decide) _ _ _ rfl (HI3.out.next (kept_alloc _ _)).own ⟨wr.heap.size, 0, none⟩ 1 1 [.string (bs ([125]))] rfl rfl ?_ ?_ ?_ ?_ ?_ ?_ _ rfl ?_)
            · exact new_cells _ #[.string (bs ([125]))] _ _ (by simp)
            · intro u hu; simp at hu; subst hu; rfl
            · decide
            · unfold maxLen; omega
            · omega
            · have := HI3.out.kept.size; first | omega | (simp only [World.size_alloc] at this; omega) | (simp only [World.size_alloc]; omega) | (simp only [World.size_alloc] at this ⊢; omega)
            intro g6 cap6 w6 hown6 hgrow6 hat6 hlt6
            have HO6 := Lib.hid ((HI3.out.next (kept_alloc _ _)).push hown6 hgrow6 hat6 (by first | rfl | simp))
            obtain ⟨vv6, hvv⟩ : ∃ v, Value.slice (some ⟨g6, 0, none⟩) (ys6.length + 1) cap6 = v := ⟨_, rfl⟩
            rw [hvv] at HO6 ⊢
            clear hvv
            rw [← HY6.out] at HO6 HI3
            clear hyl6
            clear hown6 hgrow6 hat6 hlt6
            go_wp2_with fail
            go_roundw
            case rel => exact ⟨k + 1, by omega, by go_num, ⟨by rw [HNX.out, HSRCL.out]; simpa [List.append_assoc] using HO6.out.own, HO6.out.kept⟩⟩
            case measure => simp [intOf]; omega
    · rw [if_neg hk0] at HNX
      have hkd : decide (0 < k) = true := by simp; omega
      clear hk0
      obtain ⟨ys2, HY2⟩ : ∃ ys : List Bs, Hid ((xs0 : List Bs) = ys) := ⟨_, Lib.hid rfl⟩
      rw [HY2.out] at HIN
      have hyl2 : ys2.length ≤ 30000 := by rw [← HY2.out]; first | omega | (simp only [List.length_append, List.length_map, List.length_cons, List.length_nil]; omega)
      go_wp2_with (at_builtin; refine wpList_append_lies _ rfl _ _ 55 rfl w1.heap.size 9 i0' (.string ⟨#[]⟩) 1 16 Tryd.underlying55 hi' hz0 hz1 hz2 rfl (by decide) _ _ _ rfl (HIN.out.next (kept_alloc _ _)).own ⟨wo.heap.size + 1, 0, none⟩ 1 1 [.string (bs ([]))] rfl rfl ?_ ?_ ?_ ?_ ?_ ?_ _ rfl ?_)
      · exact new_cells _ #[.string (bs ([]))] _ _ (by simp)
      · intro u hu; simp at hu; subst hu; rfl
      · decide
      · unfold maxLen; omega
      · omega
      · have := HIN.out.kept.size; first | omega | (simp only [World.size_alloc] at this; omega) | (simp only [World.size_alloc]; omega) | (simp only [World.size_alloc] at this ⊢; omega)
      intro g2 cap2 w2 hown2 hgrow2 hat2 hlt2
      have HO2 := Lib.hid ((HIN.out.next (kept_alloc _ _)).push hown2 hgrow2 hat2 (by first | rfl | simp))
      obtain ⟨vv2, hvv⟩ : ∃ v, Value.slice (some ⟨g2, 0, none⟩) (ys2.length + 1) cap2 = v := ⟨_, rfl⟩
      rw [hvv] at HO2 ⊢
      clear hvv
      rw [← HY2.out] at HO2 HIN
      clear hyl2
      clear hown2 hgrow2 hat2 hlt2
      have e0 : w2.cell? ⟨wo.heap.size, 0, none⟩ = some (.string (bs key)) := HO2.out.blk.cell 0 _ rfl
      have e1 : w2.cell? ⟨wo.heap.size, 1, none⟩ = some (.string (bs type)) := HO2.out.blk.cell 1 _ rfl
      have zb := HO2.out.blk.lt
      obtain ⟨ys5, HY5⟩ : ∃ ys : List Bs, Hid (((xs0 ++ [[]]) : List Bs) = ys) := ⟨_, Lib.hid rfl⟩
      rw [HY5.out] at HO2
      have hyl5 : ys5.length ≤ 30000 := by rw [← HY5.out]; first | omega | (simp only [List.length_append, List.length_map, List.length_cons, List.length_nil]; omega)
      go_wp2_with (at_builtin; refine wpList_append_lies _ rfl _ _ 55 rfl w1.heap.size 9 i0' (.string ⟨#[]⟩) 1 16 Tryd.underlying55 hi' hz0 hz1 hz2 rfl (by decide) _ _ _ rfl (HO2.out.next (kept_alloc _ _)).own ⟨w2.heap.size, 0, none⟩ 1 1 [.string (bs (64 :: (type ++ 123 :: (key ++ [44]))))] rfl rfl ?_ ?_ ?_ ?_ ?_ ?_ _ rfl ?_)
      · exact new_cells _ #[.string (bs (64 :: (type ++ 123 :: (key ++ [44]))))] _ _ (by simp)
      · intro u hu; simp at hu; subst hu; rfl
      · decide
      · unfold maxLen; omega
      · omega
      · have := HO2.out.kept.size; first | omega | (simp only [World.size_alloc] at this; omega) | (simp only [World.size_alloc]; omega) | (simp only [World.size_alloc] at this ⊢; omega)
      intro g5 cap5 w5 hown5 hgrow5 hat5 hlt5
      have HO5 := Lib.hid ((HO2.out.next (kept_alloc _ _)).push hown5 hgrow5 hat5 (by first | rfl | simp))
      obtain ⟨vv5, hvv⟩ : ∃ v, Value.slice (some ⟨g5, 0, none⟩) (ys5.length + 1) cap5 = v := ⟨_, rfl⟩
      rw [hvv] at HO5 ⊢
      clear hvv
      rw [← HY5.out] at HO5 HO2
      clear hyl5
      clear hown5 hgrow5 hat5 hlt5
      rw [← HHL.out] at HO5
      have HSZ : Hid (∀ {v xs w}, OutI w1 wo.heap.size #[.string (bs key), .string (bs type), .slice aA au.length cA, .slice aE ed.length cE, .slice aF fs.length cF] v xs w → Kept w1 w) := fun h => h.kept
      have e2 : w5.cell? ⟨wo.heap.size, 2, none⟩ = some (.slice aA au.length cA) := HO5.out.blk.cell 2 _ rfl
      have zb := HO5.out.blk.lt
      go_wp2_with fail
      clear e2 zb
      go_loopw [5, 49] (fun v i wr => ∃ k : Nat, k ≤ au.length ∧ i = .int .i64 k ∧ Hid (OutI w1 wo.heap.size #[.string (bs key), .string (bs type), .slice aA au.length cA, .slice aE ed.length cE, .slice aF fs.length cF] v (((xs0 ++ [[]]) ++ [hdl]) ++ (au.take k).map (persLine hAuthor)) wr)) (fun _ i _ => au.length - (intOf i).toNat)
      case atStart => exact ⟨0, Nat.zero_le _, rfl, Lib.hid (by simpa using HO5.out)⟩
      case round =>
        obtain ⟨k1, hk1, rfl, HI1⟩ := hrel
        by_cases hlt1 : k1 < au.length
        case pos =>
          obtain ⟨p, hx⟩ : ∃ x, au[k1]? = some x := ⟨_, List.getElem?_eq_getElem hlt1⟩
          have HN1 := Lib.hid (pers_next au hAuthor k1 p hx)
          have HSM := Lib.hid (HSM1.out p (List.mem_of_getElem? hx))
          have hln := pers_len au hAuthor k1
          obtain ⟨a', c', hv', hc', h3'⟩ := HP1.out.kept (HSZ.out HI1.out)
          obtain ⟨rfl, hdead, rfl⟩ := Value.slice.inj hv'
          clear hdead hc'
          obtain ⟨gp, op, rfl, hg', hcc⟩ := h3' (by omega)
          obtain ⟨d0, d1, d2, d3⟩ := hcc k1 p hx
          have HLL : Hid (persLine hAuthor p = [97, 117, 116, 104, 111, 114, 32, 61, 32] ++ textR p.1 p.2.1 p.2.2.1 p.2.2.2) := rfl
          obtain ⟨pf, pg, pp, ps⟩ := p
          simp only at d0 d1 d2 d3 HSM HLL
          have HT := Lib.hid (fun w hg => text_any pf pg pp ps w hg (by have := HSM.out; omega))
          have HGR := Lib.hid (HG1.out.kept HI1.out.kept)
          have hXl := textR_len pf pg pp ps
          have hXs := HSM.out
          clear hcc h3' hv' hx
          generalize textE pf pg pp ps = E at *
          generalize textR pf pg pp ps = X at *
          generalize (au.take k1).map (persLine hAuthor) = pre at *
          go_wp2_with fail
          refine (HT.out _ (HGR.out.kept (kept_alloc _ _))).mono ?_
          rintro e w3 ⟨rfl, hk3⟩
          have HO3 := Lib.hid (HI1.out.next ((kept_alloc _ _).trans hk3))
          clear hk3 d0 d1 d2 d3 hg'
          obtain ⟨ys4, HY4⟩ : ∃ ys : List Bs, Hid ((((xs0 ++ [[]]) ++ [hdl]) ++ pre : List Bs) = ys) := ⟨_, Lib.hid rfl⟩
          rw [HY4.out] at HO3
          have hyl4 : ys4.length ≤ 30000 := by rw [← HY4.out]; first | omega | (simp only [List.length_append, List.length_map, List.length_cons, List.length_nil]; omega)
          go_wp2_with (at_builtin; refine wpList_append_lies _ rfl _ _ 55 rfl w1.heap.size 9 i0' (.string ⟨#[]⟩) 1 16 Tryd.underlying55 hi' hz0 hz1 hz2 rfl (by decide) _ _ _ rfl (HO3.out.next (kept_alloc _ _)).own ⟨w3.heap.size, 0, none⟩ 1 1 [.string (bs ([97, 117, 116, 104, 111, 114, 32, 61, 32] ++ X))] rfl rfl ?_ ?_ ?_ ?_ ?_ ?_ _ rfl ?_)
          · exact new_cells _ #[.string (bs ([97, 117, 116, 104, 111, 114, 32, 61, 32] ++ X))] _ _ (by simp)
          · intro u hu; simp at hu; subst hu; rfl
          · decide
          · unfold maxLen; omega
          · omega
          · have := HO3.out.kept.size; first | omega | (simp only [World.size_alloc] at this; omega) | (simp only [World.size_alloc]; omega) | (simp only [World.size_alloc] at this ⊢; omega)
          intro g4 cap4 w4 hown4 hgrow4 hat4 hlt4
          have HO4 := Lib.hid ((HO3.out.next (kept_alloc _ _)).push hown4 hgrow4 hat4 (by first | rfl | simp))
          obtain ⟨vv4, hvv⟩ : ∃ v, Value.slice (some ⟨g4, 0, none⟩) (ys4.length + 1) cap4 = v := ⟨_, rfl⟩
          rw [hvv] at HO4 ⊢
          clear hvv
          rw [← HY4.out] at HO4 HO3
          clear hyl4
          clear hown4 hgrow4 hat4 hlt4
          go_wp2_with fail
          go_roundw
          case rel => exact ⟨k1 + 1, by omega, by go_num, by rw [HN1.out, HLL.out, ← List.append_assoc]; exact HO4.out⟩
          case measure => simp [intOf]; omega
        obtain rfl : k1 = au.length := by omega
        rw [List.take_of_length_le (Nat.le_refl _)] at HI1
        clear hlt1 hk1
        have e3 : wr.cell? ⟨wo.heap.size, 3, none⟩ = some (.slice aE ed.length cE) := HI1.out.blk.cell 3 _ rfl
        have zb := HI1.out.blk.lt
        go_wp2_with fail
        clear e3 zb
        go_loopw [5, 67] (fun v i wr => ∃ k : Nat, k ≤ ed.length ∧ i = .int .i64 k ∧ Hid (OutI w1 wo.heap.size #[.string (bs key), .string (bs type), .slice aA au.length cA, .slice aE ed.length cE, .slice aF fs.length cF] v (((xs0 ++ [[]]) ++ [hdl] ++ au.map (persLine hAuthor)) ++ (ed.take k).map (persLine hEditor)) wr)) (fun _ i _ => ed.length - (intOf i).toNat)
        case atStart => exact ⟨0, Nat.zero_le _, rfl, Lib.hid (by simpa using HI1.out)⟩
        case round =>
          obtain ⟨k2, hk2, rfl, HI2⟩ := hrel
          by_cases hlt2 : k2 < ed.length
          case pos =>
            obtain ⟨p, hx⟩ : ∃ x, ed[k2]? = some x := ⟨_, List.getElem?_eq_getElem hlt2⟩
            have HN2 := Lib.hid (pers_next ed hEditor k2 p hx)
            have HSM := Lib.hid (HSM2.out p (List.mem_of_getElem? hx))
            have hln := pers_len ed hEditor k2
            obtain ⟨a', c', hv', hc', h3'⟩ := HP2.out.kept (HSZ.out HI2.out)
            obtain ⟨rfl, hdead, rfl⟩ := Value.slice.inj hv'
            clear hdead hc'
            obtain ⟨gp, op, rfl, hg', hcc⟩ := h3' (by omega)
            obtain ⟨d0, d1, d2, d3⟩ := hcc k2 p hx
            have HLL : Hid (persLine hEditor p = [101, 100, 105, 116, 111, 114, 32, 61, 32] ++ textR p.1 p.2.1 p.2.2.1 p.2.2.2) := rfl
            obtain ⟨pf, pg, pp, ps⟩ := p
            simp only at d0 d1 d2 d3 HSM HLL
            have HT := Lib.hid (fun w hg => text_any pf pg pp ps w hg (by have := HSM.out; omega))
            have HGR := Lib.hid (HG1.out.kept HI2.out.kept)
            have hXl := textR_len pf pg pp ps
            have hXs := HSM.out
            clear hcc h3' hv' hx
            generalize textE pf pg pp ps = E at *
            generalize textR pf pg pp ps = X at *
            generalize (ed.take k2).map (persLine hEditor) = pre at *
            go_wp2_with fail
            refine (HT.out _ (HGR.out.kept (kept_alloc _ _))).mono ?_
            rintro e w3 ⟨rfl, hk3⟩
            have HO3 := Lib.hid (HI2.out.next ((kept_alloc _ _).trans hk3))
            clear hk3 d0 d1 d2 d3 hg'
            obtain ⟨ys4, HY4⟩ : ∃ ys : List Bs, Hid ((((xs0 ++ [[]]) ++ [hdl] ++ au.map (persLine hAuthor)) ++ pre : List Bs) = ys) := ⟨_, Lib.hid rfl⟩
            rw [HY4.out] at HO3
            have hyl4 : ys4.length ≤ 30000 := by rw [← HY4.out]; first | omega | (simp only [List.length_append, List.length_map, List.length_cons, List.length_nil]; omega)
            go_wp2_with (at_builtin; refine wpList_append_lies _ rfl _ _ 55 rfl w1.heap.size 9 i0' (.string ⟨#[]⟩) 1 16 Tryd.underlying55 hi' hz0 hz1 hz2 rfl (by decide) _ _ _ rfl (HO3.out.next (kept_alloc _ _)).own ⟨w3.heap.size, 0, none⟩ 1 1 [.string (bs ([101, 100, 105, 116, 111, 114, 32, 61, 32] ++ X))] rfl rfl ?_ ?_ ?_ ?_ ?_ ?_ _ rfl ?_)
            · exact new_cells _ #[.string (bs ([101, 100, 105, 116, 111, 114, 32, 61, 32] ++ X))] _ _ (by simp)
            · intro u hu; simp at hu; subst hu; rfl
            · decide
            · unfold maxLen; omega
            · omega
            · have := HO3.out.kept.size; first | omega | (simp only [World.size_alloc] at this; omega) | (simp only [World.size_alloc]; omega) | (simp only [World.size_alloc] at this ⊢; omega)
            intro g4 cap4 w4 hown4 hgrow4 hat4 hlt4
            have HO4 := Lib.hid ((HO3.out.next (kept_alloc _ _)).push hown4 hgrow4 hat4 (by first | rfl | simp))
            obtain ⟨vv4, hvv⟩ : ∃ v, Value.slice (some ⟨g4, 0, none⟩) (ys4.length + 1) cap4 = v := ⟨_, rfl⟩
            rw [hvv] at HO4 ⊢
            clear hvv
            rw [← HY4.out] at HO4 HO3
            clear hyl4
            clear hown4 hgrow4 hat4 hlt4
            go_wp2_with fail
            go_roundw
            case rel => exact ⟨k2 + 1, by omega, by go_num, by rw [HN2.out, HLL.out, ← List.append_assoc]; exact HO4.out⟩
            case measure => simp [intOf]; omega
          obtain rfl : k2 = ed.length := by omega
          rw [List.take_of_length_le (Nat.le_refl _)] at HI2
          clear hlt2 hk2
          have e4 : wr.cell? ⟨wo.heap.size, 4, none⟩ = some (.slice aF fs.length cF) := HI2.out.blk.cell 4 _ rfl
          have zb := HI2.out.blk.lt
          go_wp2_with fail
          clear e4 zb
          go_loopw [5, 85] (fun v i wr => ∃ k : Nat, k ≤ fs.length ∧ i = .int .i64 k ∧ Hid (OutI w1 wo.heap.size #[.string (bs key), .string (bs type), .slice aA au.length cA, .slice aE ed.length cE, .slice aF fs.length cF] v (((xs0 ++ [[]]) ++ [hdl] ++ au.map (persLine hAuthor) ++ ed.map (persLine hEditor)) ++ (fs.take k).map fldLine) wr)) (fun _ i _ => fs.length - (intOf i).toNat)
          case atStart => exact ⟨0, Nat.zero_le _, rfl, Lib.hid (by simpa using HI2.out)⟩
          case round =>
            obtain ⟨k3, hk3, rfl, HI3⟩ := hrel
            by_cases hlt3 : k3 < fs.length
            case pos =>
              obtain ⟨p, hx⟩ : ∃ x, fs[k3]? = some x := ⟨_, List.getElem?_eq_getElem hlt3⟩
              have HN3 := Lib.hid (fld_next fs k3 p hx)
              have hln := fld_len fs k3
              obtain ⟨a', c', hv', hc', h3'⟩ := HP3.out.kept (HSZ.out HI3.out)
              obtain ⟨rfl, hdead, rfl⟩ := Value.slice.inj hv'
              clear hdead hc'
              obtain ⟨gp, op, rfl, hg', hcc⟩ := h3' (by omega)
              obtain ⟨d0, d1⟩ := hcc k3 p hx
              have HLL : Hid (fldLine p = p.1 ++ 32 :: 61 :: 32 :: p.2) := by show _ = _; simp [fldLine]
              obtain ⟨hx1, hx2⟩ := HSM3.out p (List.mem_of_getElem? hx)
              obtain ⟨x, y⟩ := p
              simp only at d0 d1 HLL hx1 hx2
              clear hcc h3' hv' hx
              generalize (fs.take k3).map fldLine = pre at *
              have HO3 := Lib.hid (HI3.out.next (kept_alloc _ (.cells #[.string (bs x), .string (bs y)] 42)))
              obtain ⟨ys4, HY4⟩ : ∃ ys : List Bs, Hid ((((xs0 ++ [[]]) ++ [hdl] ++ au.map (persLine hAuthor) ++ ed.map (persLine hEditor)) ++ pre : List Bs) = ys) := ⟨_, Lib.hid rfl⟩
              rw [HY4.out] at HO3
              have hyl4 : ys4.length ≤ 30000 := by rw [← HY4.out]; first | omega | (simp only [List.length_append, List.length_map, List.length_cons, List.length_nil]; omega)
              go_wp2_with (at_builtin; refine wpList_append_lies _ rfl _ _ 55 rfl w1.heap.size 9 i0' (.string ⟨#[]⟩) 1 16 Tryd.underlying55 hi' hz0 hz1 hz2 rfl (by decide) _ _ _ rfl (HO3.out.next (kept_alloc _ _)).own ⟨wr.heap.size + 1, 0, none⟩ 1 1 [.string (bs (x ++ 32 :: 61 :: 32 :: y))] rfl rfl ?_ ?_ ?_ ?_ ?_ ?_ _ rfl ?_)
              · exact new_cells _ #[.string (bs (x ++ 32 :: 61 :: 32 :: y))] _ _ (by simp)
              · intro u hu; simp at hu; subst hu; rfl
              · decide
              · unfold maxLen; omega
              · omega
              · have := HO3.out.kept.size; first | omega | (simp only [World.size_alloc] at this; omega) | (simp only [World.size_alloc]; omega) | (simp only [World.size_alloc] at this ⊢; omega)
              intro g4 cap4 w4 hown4 hgrow4 hat4 hlt4
              have HO4 := Lib.hid ((HO3.out.next (kept_alloc _ _)).push hown4 hgrow4 hat4 (by first | rfl | simp))
              obtain ⟨vv4, hvv⟩ : ∃ v, Value.slice (some ⟨g4, 0, none⟩) (ys4.length + 1) cap4 = v := ⟨_, rfl⟩
              rw [hvv] at HO4 ⊢
              clear hvv
              rw [← HY4.out] at HO4 HO3
              clear hyl4
              clear hown4 hgrow4 hat4 hlt4
              go_wp2_with fail
              go_roundw
              case rel => exact ⟨k3 + 1, by omega, by go_num, by rw [HN3.out, HLL.out, ← List.append_assoc]; exact HO4.out⟩
              case measure => simp [intOf]; omega
            obtain rfl : k3 = fs.length := by omega
            rw [List.take_of_length_le (Nat.le_refl _)] at HI3
            clear hlt3 hk3
            obtain ⟨ys6, HY6⟩ : ∃ ys : List Bs, Hid ((((xs0 ++ [[]]) ++ [hdl] ++ au.map (persLine hAuthor) ++ ed.map (persLine hEditor)) ++ fs.map fldLine : List Bs) = ys) := ⟨_, Lib.hid rfl⟩
            rw [HY6.out] at HI3
            have hyl6 : ys6.length ≤ 30000 := by rw [← HY6.out]; first | omega | (simp only [List.length_append, List.length_map, List.length_cons, List.length_nil]; omega)
            go_wp2_with (at_builtin; refine wpList_append_lies _ rfl _ _ 55 rfl w1.heap.size 9 i0' (.string ⟨#[]⟩) 1 16 Tryd.underlying55 hi' hz0 hz1 hz2 rfl (by decide) _ _ _ rfl (HI3.out.next (kept_alloc _ _)).own ⟨wr.heap.size, 0, none⟩ 1 1 [.string (bs ([125]))] rfl rfl ?_ ?_ ?_ ?_ ?_ ?_ _ rfl ?_)
            · exact new_cells _ #[.string (bs ([125]))] _ _ (by simp)
            · intro u hu; simp at hu; subst hu; rfl
            · decide
            · unfold maxLen; omega
            · omega
            · have := HI3.out.kept.size; first | omega | (simp only [World.size_alloc] at this; omega) | (simp only [World.size_alloc]; omega) | (simp only [World.size_alloc] at this ⊢; omega)
            intro g6 cap6 w6 hown6 hgrow6 hat6 hlt6
            have HO6 := Lib.hid ((HI3.out.next (kept_alloc _ _)).push hown6 hgrow6 hat6 (by first | rfl | simp))
            obtain ⟨vv6, hvv⟩ : ∃ v, Value.slice (some ⟨g6, 0, none⟩) (ys6.length + 1) cap6 = v := ⟨_, rfl⟩
            rw [hvv] at HO6 ⊢
            clear hvv
            rw [← HY6.out] at HO6 HI3
            clear hyl6
            clear hown6 hgrow6 hat6 hlt6
            go_wp2_with fail
            go_roundw
            case rel => exact ⟨k + 1, by omega, by go_num, ⟨by rw [HNX.out, HSRCL.out]; simpa [List.append_assoc] using HO6.out.own, HO6.out.kept⟩⟩
            case measure => simp [intOf]; omega
end Go.Proofs.YtgkgcheegaegnaaDoor
