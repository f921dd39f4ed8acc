/- index of publisherref30. Conditions: lengths. -/
import Derived.Test.YteflhlbgbgamnaaGreatDoorT03
import Derived.Test.YteflhlbgbgamnaaGreatDoorT04
import Derived.Test.YteflhlbgbgamnaaGreatDoorT19
import Derived.Test.YteflhlbgbgamnaaGreatDoorT25

set_option linter.all false
namespace Go.Proofs.YteflhlbgbgamnaaGreatDoor
open Go.RowKit

/-- The index of the first byte c, or -1. -/
def idxI (c : UInt8) (l : Bs) : Int := if before c l < l.length then (before c l : Int) else -1
theorem before_all (c : UInt8) (l : Bs) (k : Nat) (h : k < l.length) (ha : ∀ j (hj : j < l.length), j < k → l[j] ≠ c) (hk : l[k] = c) : before c l = k := by
  unfold before
  have e : l = l.take k ++ l[k] :: l.drop (k + 1) := by rw [← List.drop_eq_getElem_cons h, List.take_append_drop]
  have ht : ∀ a ∈ l.take k, (decide (a ≠ c)) = true := by
    intro a hm
    obtain ⟨j, hj, rfl⟩ := List.mem_iff_getElem.1 hm
    simp only [List.length_take] at hj
    rw [List.getElem_take]
    simpa using ha j (by omega) (by omega)
  conv => lhs; rw [e]
  rw [List.takeWhile_append_of_pos ht, List.takeWhile_cons_of_neg (by simp [hk])]
  simp; omega
theorem before_nil (c : UInt8) (l : Bs) (ha : ∀ j (hj : j < l.length), l[j] ≠ c) : before c l = l.length := by
  unfold before
  have ht : ∀ a ∈ l, (decide (a ≠ c)) = true := by
    intro a hm
    obtain ⟨j, hj, rfl⟩ := List.mem_iff_getElem.1 hm
    simpa using ha j hj
  have := List.takeWhile_append_of_pos (l₂ := ([] : Bs)) ht
  simp only [List.append_nil, List.takeWhile_nil] at this
  rw [this]
set_option maxRecDepth 100000 in
set_option maxHeartbeats 1600000 in
theorem rindex_any (l : Bs) (c : UInt8) (n : Int) (hn : n = (c.toNat : Int)) (w : World) (hl : l.length ≤ 1100000) : Calls Tryz.prog 91 #[.string (bs l), .int .u8 n] w fun e w' => e = .returned (.int .i64 (idxI c l)) ∧ w = w' := by
  have HAT := Lib.hid (before_all c l)
  have HNO := Lib.hid (before_nil c l)
  have HI : Hid (idxI c l = if before c l < l.length then (before c l : Int) else -1) := rfl
  have h0 : 0 ≤ n := by omega
  have h255 : n < 256 := by have := c.toNat_lt; omega
  go_enter Tryz.func91, Tryz.ntmps91
  go_wp2_with fail
  go_loop [5] (fun i => ∃ k : Nat, k ≤ l.length ∧ i = .int .i64 k ∧ Hid (∀ j (hj : j < l.length), j < k → l[j] ≠ c)) (fun i => l.length - (intOf i).toNat)
  case atStart => exact ⟨0, Nat.zero_le _, rfl, fun j hj h => by omega⟩
  case round =>
    obtain ⟨k, hk, rfl, HA⟩ := hrel
    by_cases hlt : k < l.length
    · have i0 := run_ix (P := Tryz.prog) (t := 9) Tryz.underlying9 l k hlt k rfl
      have HC : Hid (at8 l k = n ↔ l[k] = c) := by
        show _ ↔ _
        rw [at8_get l k hlt, hn]
        constructor
        · intro h; exact UInt8.toNat_inj.1 (by omega)
        · intro h; rw [h]
      by_cases hb : at8 l k = n
      · have HF := Lib.hid (HAT.out k hlt HA.out (HC.out.1 hb))
        have hb' : (at8 l k == n) = true := by simpa using hb
        generalize at8 l k = b at *
        clear hb HC HA hn
        go_wp2_with fail
        go_ret
        exact ⟨ret_int (by rw [HI.out, HF.out, if_pos hlt]), rfl⟩
      · have HN : Hid (∀ j (hj : j < l.length), j < k + 1 → l[j] ≠ c) := by
          intro j hj hjk
          by_cases q : j < k
          · exact HA.out j hj q
          · obtain rfl : j = k := by omega
            exact fun h => hb (HC.out.2 h)
        have hb' : (at8 l k == n) = false := by simpa using hb
        generalize at8 l k = b at *
        clear hb HC HA hn
        go_wp2_with fail
        go_round
        case rel => exact ⟨k + 1, by omega, by go_num, HN.out⟩
        case measure => simp [intOf]; omega
    · have HF := Lib.hid (HNO.out (fun j hj => HA.out j hj (by omega)))
      clear HA hn
      go_wp2_with fail
      go_ret
      exact ⟨ret_int (by rw [HI.out, HF.out, if_neg (by omega)]), rfl⟩
end Go.Proofs.YteflhlbgbgamnaaGreatDoor

/- bib.Find and ref30.Find. Conditions: lengths. -/
set_option linter.all false
namespace Go.Proofs.YteflhlbgbgamnaaGreatDoor
open Go.RowKit

def findS (ss : List SrcT) (k : Bs) : Option SrcT := ss.find? fun s => s.key == k
theorem findS_at (ss : List SrcT) (k : Bs) (n : Nat) (s : SrcT) (hx : ss[n]? = some s) (hb : ∀ x ∈ ss.take n, (x.key == k) = false) (hk : (s.key == k) = true) : findS ss k = some s := by
  obtain ⟨hk', rfl⟩ := List.getElem?_eq_some_iff.1 hx
  unfold findS
  have e : ss = ss.take n ++ ss[n] :: ss.drop (n + 1) := by rw [← List.drop_eq_getElem_cons hk', List.take_append_drop]
  conv => lhs; rw [e]
  rw [List.find?_append, List.find?_eq_none.2 (by intro x h; rw [hb x h]; simp), List.find?_cons_of_pos (by simpa using hk)]
  rfl
theorem findS_none (ss : List SrcT) (k : Bs) (hb : ∀ x ∈ ss, (x.key == k) = false) : findS ss k = none := by
  unfold findS
  rw [List.find?_eq_none]
  intro x h; rw [hb x h]; simp
theorem kept5 {w wr : World} {v0 v1 v2 v3 v4 : Value} (h : Kept w wr) : Kept w (((((wr.setCell ⟨w.heap.size, 0, none⟩ v0).setCell ⟨w.heap.size, 1, none⟩ v1).setCell ⟨w.heap.size, 2, none⟩ v2).setCell ⟨w.heap.size, 3, none⟩ v3).setCell ⟨w.heap.size, 4, none⟩ v4) :=
  kept_set (kept_set (kept_set (kept_set (kept_set h _ _ _ (Nat.le_refl _)) _ _ _ (Nat.le_refl _)) _ _ _ (Nat.le_refl _)) _ _ _ (Nat.le_refl _)) _ _ _ (Nat.le_refl _)
theorem only_set {S : Nat → Prop} (w : World) (g o : Nat) (v : Value) (h : S g) : Only S w (w.setCell ⟨g, o, none⟩ v) := (Only.setCell g o v).mono (fun i _ e => e ▸ h)
theorem only5 {S : Nat → Prop} {w : World} {B : Nat} {v0 v1 v2 v3 v4 : Value} (h : S B) : Only S w (((((w.setCell ⟨B, 0, none⟩ v0).setCell ⟨B, 1, none⟩ v1).setCell ⟨B, 2, none⟩ v2).setCell ⟨B, 3, none⟩ v3).setCell ⟨B, 4, none⟩ v4) :=
  ((((only_set _ _ _ _ h).trans (only_set _ _ _ _ h)).trans (only_set _ _ _ _ h)).trans (only_set _ _ _ _ h)).trans (only_set _ _ _ _ h)
def FindPost (o : Option SrcT) (w : World) (e : Ending) (w' : World) : Prop :=
  ∃ vA vE vF, e = .returned (.tuple #[srcV (o.getD zeroS).key (o.getD zeroS).type vA vE vF, .bool o.isSome]) ∧ Perss w' vA (o.getD zeroS).author ∧ Perss w' vE (o.getD zeroS).editor ∧ Prs w' vF (o.getD zeroS).fields ∧ Kept w w'
set_option maxRecDepth 100000 in
set_option maxHeartbeats 3200000 in
theorem rfind_any (v : Value) (ss : List SrcT) (k : Bs) (w : World) (hv : Srcs w v ss) (hl : ss.length ≤ 1100000) :
    Calls Tryz.prog 93 #[v, .string (bs k)] w (FindPost (findS ss k) w) := by
  have HV := Lib.hid hv
  have HA := Lib.hid (findS_at ss k)
  have HNO := Lib.hid (findS_none ss k)
  obtain ⟨o, HO⟩ : ∃ o, Hid (findS ss k = o) := ⟨_, rfl⟩
  rw [HO.out] at HA HNO ⊢
  obtain ⟨a, c, rfl, hc, h3⟩ := hv
  clear h3
  unfold FindPost
  go_enter Tryz.func93, Tryz.ntmps93
  go_wp2_with fail
  go_loopw [10] (fun i wr => ∃ n : Nat, n ≤ ss.length ∧ i = .int .i64 n ∧ Hid (∀ x ∈ ss.take n, (x.key == k) = false) ∧ Hid (Blk wr w.heap.size 40 #[.string (bs []), .string (bs []), .slice none 0 0, .slice none 0 0, .slice none 0 0]) ∧ Hid (Kept w wr)) (fun i _ => ss.length - (intOf i).toNat)
  case atStart => exact ⟨0, Nat.zero_le _, rfl, fun x h => by simp at h, Blk.new w _ _, kept_alloc _ _⟩
  case round =>
    obtain ⟨n, hn, rfl, HN, HB, HKR⟩ := hrel
    have b0 : wr.cell? ⟨w.heap.size, 0, none⟩ = some (.string (bs [])) := HB.out.cell 0 _ rfl
    have b1 : wr.cell? ⟨w.heap.size, 1, none⟩ = some (.string (bs [])) := HB.out.cell 1 _ rfl
    have b2 : wr.cell? ⟨w.heap.size, 2, none⟩ = some (.slice none 0 0) := HB.out.cell 2 _ rfl
    have b3 : wr.cell? ⟨w.heap.size, 3, none⟩ = some (.slice none 0 0) := HB.out.cell 3 _ rfl
    have b4 : wr.cell? ⟨w.heap.size, 4, none⟩ = some (.slice none 0 0) := HB.out.cell 4 _ rfl
    have f0 := HB.out.free 0
    have f1 := HB.out.free 1
    have f2 := HB.out.free 2
    have f3 := HB.out.free 3
    have f4 := HB.out.free 4
    have z0 := HB.out.lt
    by_cases hlt : n < ss.length
    · obtain ⟨s, hx⟩ : ∃ x, ss[n]? = some x := ⟨_, List.getElem?_eq_getElem hlt⟩
      obtain ⟨a', c', hv', hc', h3⟩ := HV.out
      obtain ⟨rfl, hdead, rfl⟩ := Value.slice.inj hv'
      clear hdead hc'
      obtain ⟨g, o2, rfl, hg', hcc⟩ := h3 (by omega)
      obtain ⟨vA, vE, vF, t0, t1, t2, t3, t4, pA, pE, pF⟩ := hcc n s hx
      have d0 := (HKR.out.cell (p := ⟨g, _, none⟩) hg').trans t0
      have d1 := (HKR.out.cell (p := ⟨g, _, none⟩) hg').trans t1
      have d2 := (HKR.out.cell (p := ⟨g, _, none⟩) hg').trans t2
      have d3 := (HKR.out.cell (p := ⟨g, _, none⟩) hg').trans t3
      have d4 := (HKR.out.cell (p := ⟨g, _, none⟩) hg').trans t4
      clear t0 t1 t2 t3 t4
      have hg2 : g < wr.heap.size := Nat.lt_of_lt_of_le hg' HKR.out.size
      have HPS := Lib.hid (And.intro pA (And.intro pE pF))
      have HAT := Lib.hid (HA.out n s hx HN.out)
      obtain ⟨aA, cA, rfl, zA, zA'⟩ := pA
      obtain ⟨aE, cE, rfl, zE, zE'⟩ := pE
      obtain ⟨aF, cF, rfl, zF, zF'⟩ := pF
      clear zA zA' zE zE' zF zF'
      cases hxk : (s.key == k)
      · have HS : Hid (∀ x ∈ ss.take (n + 1), (x.key == k) = false) := by
          intro x hxm
          obtain ⟨hk', rfl⟩ := List.getElem?_eq_some_iff.1 hx
          rw [List.take_succ_eq_append_getElem hk'] at hxm
          rcases List.mem_append.1 hxm with h | h
          · exact HN.out x h
          · simp at h; subst h; exact hxk
        clear hcc h3 hv' hx HN HAT b0 b1 b2 b3 b4 f0 f1 f2 f3 f4 z0
        go_wp2_with fail
        go_roundw
        case rel => exact ⟨n + 1, by omega, by go_num, HS.out, HB.out.kept (kept_alloc _ _), HKR.out.trans (kept_alloc _ _)⟩
        case measure => simp [intOf]; omega
      · have HO2 := Lib.hid (HAT.out hxk)
        clear hcc h3 hv' hx HN HAT
        obtain rfl : s.key = k := by simpa using hxk
        clear hxk
        go_wp2_with fail
        have hK := (kept5 HKR.out (v0 := .string (bs s.key)) (v1 := .string (bs s.type)) (v2 := .slice aA s.author.length cA) (v3 := .slice aE s.editor.length cE) (v4 := .slice aF s.fields.length cF)).trans (kept_alloc _ (.cells #[.string (bs s.key), .string (bs s.type), .slice aA s.author.length cA, .slice aE s.editor.length cE, .slice aF s.fields.length cF] 40))
        refine bodyPost_ret (v := .tuple #[srcV s.key s.type (.slice aA s.author.length cA) (.slice aE s.editor.length cE) (.slice aF s.fields.length cF), .bool true]) (by simp [results, Tryz.results93, go_sem, b0, b1, b2, b3, b4, z0]) rfl ?_
        refine ⟨.slice aA s.author.length cA, .slice aE s.editor.length cE, .slice aF s.fields.length cF, by rw [HO2.out]; rfl, ?_, ?_, ?_, hK⟩
        · rw [HO2.out]; exact HPS.out.1.kept hK
        · rw [HO2.out]; exact HPS.out.2.1.kept hK
        · rw [HO2.out]; exact HPS.out.2.2.kept hK
    · have HE := Lib.hid (HNO.out (by have h := HN.out; rw [List.take_of_length_le (by omega)] at h; exact h))
      go_wp2_with fail
      have hK := kept5 HKR.out (v0 := .string (bs [])) (v1 := .string (bs [])) (v2 := .slice none 0 0) (v3 := .slice none 0 0) (v4 := .slice none 0 0)
      refine bodyPost_ret (v := .tuple #[srcV [] [] (.slice none 0 0) (.slice none 0 0) (.slice none 0 0), .bool false]) (by simp [results, Tryz.results93, go_sem, b0, b1, b2, b3, b4, z0]) rfl ?_
      refine ⟨.slice none 0 0, .slice none 0 0, .slice none 0 0, by rw [HE.out]; rfl, ?_, ?_, ?_, hK⟩
      · rw [HE.out]; exact Perss.none_ _
      · rw [HE.out]; exact Perss.none_ _
      · rw [HE.out]; exact Prs.none_ _
set_option maxRecDepth 100000 in
set_option maxHeartbeats 3200000 in
theorem find_any (v : Value) (ss : List SrcT) (k : Bs) (w : World) (hv : Srcs w v ss) (hl : ss.length ≤ 1100000) (hL : ∀ s ∈ ss, s.author.length ≤ 1100000 ∧ s.editor.length ≤ 1100000 ∧ s.fields.length ≤ 1100000) :
    Calls Tryz.prog 37 #[v, .string (bs k)] w (FindPost (findS ss k) w) := by
  have HV := Lib.hid hv
  have HA := Lib.hid (findS_at ss k)
  have HNO := Lib.hid (findS_none ss k)
  obtain ⟨o, HO⟩ : ∃ o, Hid (findS ss k = o) := ⟨_, rfl⟩
  rw [HO.out] at HA HNO ⊢
  obtain ⟨a, c, rfl, hc, h3⟩ := hv
  clear h3
  unfold FindPost
  go_enter Tryz.func37, Tryz.ntmps37
  go_wp2_with fail
  go_loopw [10] (fun i wr => ∃ n : Nat, n ≤ ss.length ∧ i = .int .i64 n ∧ Hid (∀ x ∈ ss.take n, (x.key == k) = false) ∧ Hid (Blk wr w.heap.size 40 #[.string (bs []), .string (bs []), .slice none 0 0, .slice none 0 0, .slice none 0 0]) ∧ Hid (Kept w wr)) (fun i _ => ss.length - (intOf i).toNat)
  case atStart => exact ⟨0, Nat.zero_le _, rfl, fun x h => by simp at h, Blk.new w _ _, kept_alloc _ _⟩
  case round =>
    obtain ⟨n, hn, rfl, HN, HB, HKR⟩ := hrel
    have b0 : wr.cell? ⟨w.heap.size, 0, none⟩ = some (.string (bs [])) := HB.out.cell 0 _ rfl
    have b1 : wr.cell? ⟨w.heap.size, 1, none⟩ = some (.string (bs [])) := HB.out.cell 1 _ rfl
    have b2 : wr.cell? ⟨w.heap.size, 2, none⟩ = some (.slice none 0 0) := HB.out.cell 2 _ rfl
    have b3 : wr.cell? ⟨w.heap.size, 3, none⟩ = some (.slice none 0 0) := HB.out.cell 3 _ rfl
    have b4 : wr.cell? ⟨w.heap.size, 4, none⟩ = some (.slice none 0 0) := HB.out.cell 4 _ rfl
    have f0 := HB.out.free 0
    have f1 := HB.out.free 1
    have f2 := HB.out.free 2
    have f3 := HB.out.free 3
    have f4 := HB.out.free 4
    have z0 := HB.out.lt
    by_cases hlt : n < ss.length
    · obtain ⟨s, hx⟩ : ∃ x, ss[n]? = some x := ⟨_, List.getElem?_eq_getElem hlt⟩
      obtain ⟨a', c', hv', hc', h3⟩ := HV.out
      obtain ⟨rfl, hdead, rfl⟩ := Value.slice.inj hv'
      clear hdead hc'
      obtain ⟨g, o2, rfl, hg', hcc⟩ := h3 (by omega)
      obtain ⟨vA, vE, vF, t0, t1, t2, t3, t4, pA, pE, pF⟩ := hcc n s hx
      have d0 := (HKR.out.cell (p := ⟨g, _, none⟩) hg').trans t0
      have d1 := (HKR.out.cell (p := ⟨g, _, none⟩) hg').trans t1
      have d2 := (HKR.out.cell (p := ⟨g, _, none⟩) hg').trans t2
      have d3 := (HKR.out.cell (p := ⟨g, _, none⟩) hg').trans t3
      have d4 := (HKR.out.cell (p := ⟨g, _, none⟩) hg').trans t4
      clear t0 t1 t2 t3 t4
      have hg2 : g < wr.heap.size := Nat.lt_of_lt_of_le hg' HKR.out.size
      have HL := Lib.hid (hL s (List.mem_of_getElem? hx))
      have HPS := Lib.hid (And.intro pA (And.intro pE pF))
      have HAT := Lib.hid (HA.out n s hx HN.out)
      obtain ⟨aA, cA, rfl, zA, zA'⟩ := pA
      obtain ⟨aE, cE, rfl, zE, zE'⟩ := pE
      obtain ⟨aF, cF, rfl, zF, zF'⟩ := pF
      clear zA zA' zE zE' zF zF'
      cases hxk : (s.key == k)
      · have HS : Hid (∀ x ∈ ss.take (n + 1), (x.key == k) = false) := by
          intro x hxm
          obtain ⟨hk', rfl⟩ := List.getElem?_eq_some_iff.1 hx
          rw [List.take_succ_eq_append_getElem hk'] at hxm
          rcases List.mem_append.1 hxm with h | h
          · exact HN.out x h
          · simp at h; subst h; exact hxk
        clear hcc h3 hv' hx HN HAT b0 b1 b2 b3 b4 f0 f1 f2 f3 f4 z0
        go_wp2_with fail
        go_roundw
        case rel => exact ⟨n + 1, by omega, by go_num, HS.out, HB.out.kept (kept_alloc _ _), HKR.out.trans (kept_alloc _ _)⟩
        case measure => simp [intOf]; omega
      · have HO2 := Lib.hid (HAT.out hxk)
        clear hcc h3 hv' hx HN HAT
        obtain rfl : s.key = k := by simpa using hxk
        clear hxk
        have HCA := Lib.hid (fun w h => cloneP_any (.slice aA s.author.length cA) s.author w h HL.out.1)
        have HCE := Lib.hid (fun w h => cloneP_any (.slice aE s.editor.length cE) s.editor w h HL.out.2.1)
        have HCF := Lib.hid (fun w h => cloneF_any (.slice aF s.fields.length cF) s.fields w h HL.out.2.2)
        have HBK := Lib.hid (Blk.new wr 40 #[.string (bs s.key), .string (bs s.type), .slice aA s.author.length cA, .slice aE s.editor.length cE, .slice aF s.fields.length cF])
        have HK0 := Lib.hid (HKR.out.trans (kept_alloc wr (.cells #[.string (bs s.key), .string (bs s.type), .slice aA s.author.length cA, .slice aE s.editor.length cE, .slice aF s.fields.length cF] 40)))
        have hwr : w.heap.size ≤ wr.heap.size := HKR.out.size
        go_wp2_with fail
        refine (HCA.out _ (HPS.out.1.kept HK0.out)).mono ?_
        rintro e w1 ⟨v1, rfl, hp1, hf1, hk1⟩
        have HP1 := Lib.hid hp1
        have HF1 : Hid (Fresh (wr.heap.size + 1) v1) := by show Fresh _ _; simpa using hf1
        have HB1 := Lib.hid (HBK.out.kept hk1)
        have HR1 := Lib.hid ((HB.out.kept (kept_alloc wr _)).kept hk1)
        have HK1 := Lib.hid (HK0.out.trans hk1)
        have HKA := Lib.hid (kept_set HK1.out wr.heap.size 2 v1 hwr)
        obtain ⟨a1, c1, rfl, y1, y2⟩ := hp1
        clear hk1 hf1 y1 y2 b0 b1 b2 b3 b4 f0 f1 f2 f3 f4 z0 d0 d1 d2 d3 d4 hg2 hg'
        have e2 : w1.cell? ⟨wr.heap.size, 2, none⟩ = some (.slice aA s.author.length cA) := HB1.out.cell 2 _ rfl
        have e3 : w1.cell? ⟨wr.heap.size, 3, none⟩ = some (.slice aE s.editor.length cE) := HB1.out.cell 3 _ rfl
        have f2 := HB1.out.free 2
        have z1 := HB1.out.lt
        go_wp2_with fail
        refine (HCE.out _ (HPS.out.2.1.kept HKA.out)).mono ?_
        rintro e w2 ⟨v2, rfl, hp2, hf2, hk2⟩
        have HP2 := Lib.hid hp2
        have HF2 : Hid (Fresh (wr.heap.size + 1) v2) := by
          show Fresh _ _
          intro g' o' n' c' he hn
          have := hf2 g' o' n' c' he hn
          rw [size_setCell] at this; omega
        have HB2 : Hid (Blk w2 wr.heap.size 40 #[.string (bs s.key), .string (bs s.type), .slice a1 s.author.length c1, .slice aE s.editor.length cE, .slice aF s.fields.length cF]) := (HB1.out.set 2 _).kept hk2
        have HR2 := Lib.hid ((HR1.out.other wr.heap.size 2 (.slice a1 s.author.length c1) (by have := HB.out.lt; omega)).kept hk2)
        have HO2A := Lib.hid ((only_set (S := fun i => i ≤ wr.heap.size) w1 wr.heap.size 2 (.slice a1 s.author.length c1) (Nat.le_refl _)).trans (Only.of_kept hk2))
        have HK2 := Lib.hid (HKA.out.trans hk2)
        have HKB := Lib.hid (kept_set HK2.out wr.heap.size 3 v2 hwr)
        obtain ⟨a2, c2, rfl, y1, y2⟩ := hp2
        clear hk2 hf2 y1 y2 e2 e3 f2 z1
        have e3 : w2.cell? ⟨wr.heap.size, 3, none⟩ = some (.slice aE s.editor.length cE) := HB2.out.cell 3 _ rfl
        have e4 : w2.cell? ⟨wr.heap.size, 4, none⟩ = some (.slice aF s.fields.length cF) := HB2.out.cell 4 _ rfl
        have f3 := HB2.out.free 3
        have z2 := HB2.out.lt
        go_wp2_with fail
        refine (HCF.out _ (HPS.out.2.2.kept HKB.out)).mono ?_
        rintro e w3 ⟨v3, rfl, hp3, hf3, hk3⟩
        have HP3 := Lib.hid hp3
        have HF3 : Hid (Fresh (wr.heap.size + 1) v3) := by
          show Fresh _ _
          intro g' o' n' c' he hn
          have := hf3 g' o' n' c' he hn
          rw [size_setCell] at this; omega
        have HB3 : Hid (Blk w3 wr.heap.size 40 #[.string (bs s.key), .string (bs s.type), .slice a1 s.author.length c1, .slice a2 s.editor.length c2, .slice aF s.fields.length cF]) := (HB2.out.set 3 _).kept hk3
        have HR3 := Lib.hid ((HR2.out.other wr.heap.size 3 (.slice a2 s.editor.length c2) (by have := HB.out.lt; omega)).kept hk3)
        have HO3A := Lib.hid ((only_set (S := fun i => i ≤ wr.heap.size) w2 wr.heap.size 3 (.slice a2 s.editor.length c2) (Nat.le_refl _)).trans (Only.of_kept hk3))
        have HK3 := Lib.hid (HKB.out.trans hk3)
        have HKC := Lib.hid (kept_set HK3.out wr.heap.size 4 v3 hwr)
        obtain ⟨a3, c3, rfl, y1, y2⟩ := hp3
        clear hk3 hf3 y1 y2 e3 e4 f3 z2
        have e0 : w3.cell? ⟨wr.heap.size, 0, none⟩ = some (.string (bs s.key)) := HB3.out.cell 0 _ rfl
        have e1 : w3.cell? ⟨wr.heap.size, 1, none⟩ = some (.string (bs s.type)) := HB3.out.cell 1 _ rfl
        have e2 : w3.cell? ⟨wr.heap.size, 2, none⟩ = some (.slice a1 s.author.length c1) := HB3.out.cell 2 _ rfl
        have e3 : w3.cell? ⟨wr.heap.size, 3, none⟩ = some (.slice a2 s.editor.length c2) := HB3.out.cell 3 _ rfl
        have e4 : w3.cell? ⟨wr.heap.size, 4, none⟩ = some (.slice aF s.fields.length cF) := HB3.out.cell 4 _ rfl
        have f4 := HB3.out.free 4
        have z3 := HB3.out.lt
        have b0 : w3.cell? ⟨w.heap.size, 0, none⟩ = some (.string (bs [])) := HR3.out.cell 0 _ rfl
        have b1 : w3.cell? ⟨w.heap.size, 1, none⟩ = some (.string (bs [])) := HR3.out.cell 1 _ rfl
        have b2 : w3.cell? ⟨w.heap.size, 2, none⟩ = some (.slice none 0 0) := HR3.out.cell 2 _ rfl
        have b3 : w3.cell? ⟨w.heap.size, 3, none⟩ = some (.slice none 0 0) := HR3.out.cell 3 _ rfl
        have b4 : w3.cell? ⟨w.heap.size, 4, none⟩ = some (.slice none 0 0) := HR3.out.cell 4 _ rfl
        have h0 := HR3.out.free 0
        have h1 := HR3.out.free 1
        have h2 := HR3.out.free 2
        have h3 := HR3.out.free 3
        have h4 := HR3.out.free 4
        have z4 := HR3.out.lt
        have hne : w.heap.size ≠ wr.heap.size := by have := HB.out.lt; omega
        go_wp2_with fail
        have HO4A := Lib.hid ((only_set (S := fun i => i ≤ wr.heap.size) w3 wr.heap.size 4 (.slice a3 s.fields.length c3) (Nat.le_refl _)).trans (only5 (B := w.heap.size) (v0 := .string (bs s.key)) (v1 := .string (bs s.type)) (v2 := .slice a1 s.author.length c1) (v3 := .slice a2 s.editor.length c2) (v4 := .slice a3 s.fields.length c3) hwr))
        have hK := kept5 HKC.out (v0 := .string (bs s.key)) (v1 := .string (bs s.type)) (v2 := .slice a1 s.author.length c1) (v3 := .slice a2 s.editor.length c2) (v4 := .slice a3 s.fields.length c3)
        refine bodyPost_ret (v := .tuple #[srcV s.key s.type (.slice a1 s.author.length c1) (.slice a2 s.editor.length c2) (.slice a3 s.fields.length c3), .bool true]) (by simp [results, Tryz.results37, go_sem, b0, b1, b2, b3, b4, z4, hne]) rfl ?_
        refine ⟨.slice a1 s.author.length c1, .slice a2 s.editor.length c2, .slice a3 s.fields.length c3, by rw [HO2.out]; rfl, ?_, ?_, ?_, hK⟩
        · rw [HO2.out]; exact HP1.out.away HF1.out ((HO2A.out.trans HO3A.out).trans HO4A.out) (fun i h => by omega)
        · rw [HO2.out]; exact HP2.out.away HF2.out (HO3A.out.trans HO4A.out) (fun i h => by omega)
        · rw [HO2.out]; exact HP3.out.away HF3.out HO4A.out (fun i h => by omega)
    · have HE := Lib.hid (HNO.out (by have h := HN.out; rw [List.take_of_length_le (by omega)] at h; exact h))
      go_wp2_with fail
      have hK := kept5 HKR.out (v0 := .string (bs [])) (v1 := .string (bs [])) (v2 := .slice none 0 0) (v3 := .slice none 0 0) (v4 := .slice none 0 0)
      refine bodyPost_ret (v := .tuple #[srcV [] [] (.slice none 0 0) (.slice none 0 0) (.slice none 0 0), .bool false]) (by simp [results, Tryz.results37, go_sem, b0, b1, b2, b3, b4, z0]) rfl ?_
      refine ⟨.slice none 0 0, .slice none 0 0, .slice none 0 0, by rw [HE.out]; rfl, ?_, ?_, ?_, hK⟩
      · rw [HE.out]; exact Perss.none_ _
      · rw [HE.out]; exact Perss.none_ _
      · rw [HE.out]; exact Prs.none_ _
end Go.Proofs.YteflhlbgbgamnaaGreatDoor
