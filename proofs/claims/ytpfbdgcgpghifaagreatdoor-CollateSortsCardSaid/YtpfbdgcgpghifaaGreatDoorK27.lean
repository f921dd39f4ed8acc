/- Parse of collate. Conditions: lengths. -/
import Derived.Test.YtpfbdgcgpghifaaGreatDoorK26
import Derived.Test.YtpfbdgcgpghifaaGreatDoorK18
import Derived.Test.YtpfbdgcgpghifaaGreatDoorK15

set_option linter.all false
namespace Go.Proofs.YtpfbdgcgpghifaaGreatDoor
open Go.RowKit

def CParP (r : ColT × Int × Int) (w : World) (e : Ending) (w' : World) : Prop :=
  ∃ vR vO, e = .returned (.tuple #[colV vR vO r.1.ignore, .int .i64 r.2.1, .int .i64 r.2.2]) ∧ Col w' vR vO r.1 ∧ Kept w w'
theorem Strs.onl {S : Nat → Prop} {w w' : World} {v : Value} {xs : List Bs} (h : Strs w v xs) (k : Only S w w') (hs : ∀ g, v.ownBlock = some g → 0 < xs.length → ¬ S g) : Strs w' v xs := by
  obtain ⟨a, c, hv, hc, h3⟩ := h
  refine ⟨a, c, hv, hc, fun q => ?_⟩
  obtain ⟨g, o, ha, hg, hcell⟩ := h3 q
  have hn : ¬ S g := hs g (by rw [hv, ha]; rfl) q
  exact ⟨g, o, ha, Nat.lt_of_lt_of_le hg k.size, fun j x hx => (k.cell g _ hg hn).trans (hcell j x hx)⟩
theorem Strs.blk_lt {w : World} {v : Value} {xs : List Bs} (h : Strs w v xs) (g : Nat) (hg : v.ownBlock = some g) (hq : 0 < xs.length) : g < w.heap.size := by
  obtain ⟨a, c, hv, hc, h3⟩ := h
  obtain ⟨g', o, ha, hgg, _⟩ := h3 hq
  rw [hv, ha] at hg
  have : g' = g := by simpa [Value.ownBlock] using hg
  omega
theorem col_zero (w : World) : Col w (.slice none 0 0) (.slice none 0 0) zeroC := ⟨Prs.none_ _, Strs.none_ _⟩
abbrev zCs : Array Value := #[.slice none 0 0, .slice none 0 0, .string (bs [])]
theorem kept3 {w wr : World} {B : Nat} {v0 v1 v2 : Value} (h : Kept w wr) (hB : w.heap.size ≤ B) : Kept w (((wr.setCell ⟨B, 0, none⟩ v0).setCell ⟨B, 1, none⟩ v1).setCell ⟨B, 2, none⟩ v2) :=
  kept_set (kept_set (kept_set h _ _ _ hB) _ _ _ hB) _ _ _ hB
theorem two_new (w : World) : Blk ((w.alloc (.cells zCs 25)).alloc (.cells zCs 25)) w.heap.size 25 zCs ∧ Blk ((w.alloc (.cells zCs 25)).alloc (.cells zCs 25)) (w.heap.size + 1) 25 zCs ∧ Kept w ((w.alloc (.cells zCs 25)).alloc (.cells zCs 25)) ∧ ((w.alloc (.cells zCs 25)).alloc (.cells zCs 25)).heap.size = w.heap.size + 2 := by
  refine ⟨(Blk.new w _ _).alloc _, ?_, (kept_alloc _ _).trans (kept_alloc _ _), by simp⟩
  have h := Blk.new (w.alloc (.cells zCs 25)) 25 zCs
  simpa using h
theorem own_set3 {w : World} {base : Nat} {e : TypeId} {size : Nat} {v : Value} {n : Nat} {xs : List Value} {B : Nat} {t : TypeId} {cs : Array Value} {v0 v1 v2 : Value} (h : w.ownsRow base e size v n xs) (hb : Blk w B t cs) (hne : e ≠ t) :
    (((w.setCell ⟨B, 0, none⟩ v0).setCell ⟨B, 1, none⟩ v1).setCell ⟨B, 2, none⟩ v2).ownsRow base e size v n xs := by
  have ho : Only (fun i => i = B) w (((w.setCell ⟨B, 0, none⟩ v0).setCell ⟨B, 1, none⟩ v1).setCell ⟨B, 2, none⟩ v2) := ((Only.setCell B 0 v0).trans (Only.setCell B 1 v1)).trans (Only.setCell B 2 v2)
  exact ho.own h (fun g hg q => own_no_blk h hb hne (by rw [hg, q]))
set_option maxRecDepth 100000 in
set_option maxHeartbeats 6400000 in
theorem cparse_any (t : Bs) (w : World) (hg : Gnd w) (ht : t.length ≤ 600) : Calls Tryz.prog 37 #[.string (bs t)] w (CParP (colR (linesL t) 0 zeroC) w) := by
  have HG := Lib.hid hg
  clear hg
  have HLS := Lib.hid (fun w => lsplit_own t w (by omega))
  obtain ⟨hl1, hl2⟩ := lines_le t
  have HL1 := Lib.hid hl1
  clear hl1
  have H0 : Hid (colR (linesL t) 0 zeroC = colR ((linesL t).drop 0) 0 zeroC) := rfl
  have hls : (linesL t).length ≤ 601 := by omega
  obtain ⟨R, HR⟩ : ∃ R, Hid (colR (linesL t) 0 zeroC = R) := ⟨_, rfl⟩
  rw [HR.out] at H0 ⊢
  generalize linesL t = ls at *
  unfold SliQ at HLS
  have HTW := Lib.hid (two_new w)
  go_enter Tryz.func37, Tryz.ntmps37
  go_wp2_with fail
  generalize (w.alloc (.cells zCs 25)).alloc (.cells zCs 25) = w0 at *
  refine (HLS.out _).mono ?_
  rintro e w1 ⟨v1, rfl, hv1, hb1, hk1⟩
  have HV1 := Lib.hid hv1
  have HB1 := Lib.hid hb1
  have HK1 := Lib.hid (HTW.out.2.2.1.trans hk1)
  have HZ1 := Lib.hid (And.intro (HTW.out.1.kept hk1) (HTW.out.2.1.kept hk1))
  have hsz : w.heap.size + 2 ≤ w1.heap.size := by have := hk1.size; have := HTW.out.2.2.2; omega
  have hw0 := HTW.out.2.2.2
  obtain ⟨a1, c1, rfl, hc1⟩ := hv1.form
  clear hv1 hb1 hk1
  go_wp2_with fail
  go_loopw [13] (fun i wr => ∃ (k : Nat) (c : ColT), k ≤ ls.length ∧ i = .int .i64 k ∧ Hid (R = colR (ls.drop k) k c) ∧ Hid (colE c = 0) ∧ Hid (Blk wr w.heap.size 25 zCs ∧ ColSt wr (w.heap.size + 1) w1.heap.size c) ∧ Hid (Only (fun i => i = w.heap.size + 1 ∨ w1.heap.size ≤ i) w1 wr)) (fun i _ => ls.length - (intOf i).toNat)
  case atStart => exact ⟨0, zeroC, Nat.zero_le _, rfl, H0.out, colE_zero, ⟨HZ1.out.1, .slice none 0 0, .slice none 0 0, HZ1.out.2, World.ownsRow_nil _ _ _ _, World.ownsRow_nil _ _ _ _⟩, Only.of_kept (Kept.refl _)⟩
  case round =>
    obtain ⟨k, c, hk, rfl, HP, HC0, HST, HO⟩ := hrel
    have HKW : Hid (Kept w wr) := HK1.out.trans' (HO.out.below HK1.out.size (fun i h => by omega))
    have hwr : w1.heap.size ≤ wr.heap.size := HO.out.size
    by_cases hlt : k < ls.length
    · obtain ⟨l, hx⟩ : ∃ x, ls[k]? = some x := ⟨_, List.getElem?_eq_getElem hlt⟩
      have hll : l.length ≤ 600 := by have := HL1.out l (List.mem_of_getElem? hx); omega
      have HVR : Hid (Strs wr (.slice a1 ls.length c1) ls) := HV1.out.onl HO.out (fun g hgo hq => by
        have h1 := HV1.out.blk_lt g hgo hq
        obtain ⟨g', hg', hB⟩ := HB1.out hq
        have : g' = g := by rw [hg'] at hgo; exact Option.some.inj hgo
        omega)
      obtain ⟨g, o, rfl, hgg, d0⟩ := HVR.out.cell_of2 k l hx
      have HAT := Lib.hid (colR_at ls k l c hx)
      rw [HAT.out] at HP
      have HW := Lib.hid (words_any l wr (HG.out.kept HKW.out) (by omega))
      unfold WrdP at HW
      have HWL := Lib.hid (words_le l)
      clear hx HAT
      generalize wordsB l = W at *
      go_wp2_with fail
      refine HW.out.mono ?_
      rintro e w2 ⟨v2, rfl, hv2, hk2⟩
      have HV2 := Lib.hid hv2
      have HST2 := Lib.hid (And.intro (HST.out.1.kept hk2) (HST.out.2.kept hk2))
      have HO2 := Lib.hid (HO.out.trans (Only.of_kept hk2))
      have HKW2 := Lib.hid (HKW.out.trans hk2)
      have hw2 : w1.heap.size ≤ w2.heap.size := HO2.out.size
      obtain ⟨a2, c2, rfl, hc2⟩ := hv2.form
      clear hv2 hk2 d0 hgg
      cases W with
      | nil =>
        rw [if_pos rfl] at HP
        go_wp2_with fail
        go_roundw
        case rel => exact ⟨k + 1, c, by omega, by go_num, HP.out, HC0.out, HST2.out, HO2.out⟩
        case measure => simp [intOf]; omega
      | cons x ws =>
        rw [if_neg (by simp)] at HP
        have hwn : ws.length ≤ 600 := by have := HWL.out.2; simp at this; omega
        have HAD : Hid (∀ c', addW c (x :: ws) = some c' → SmallC c') := fun c' h => addW_small HC0.out (fun y hy => by have := HWL.out.1 y hy; omega) hwn h
        have HRD := Lib.hid (read_any (w.heap.size + 1) w1.heap.size c (.slice a2 (x :: ws).length c2) x ws w2 HST2.out.2 HV2.out hw2 (by have := (colE_small HC0.out).1; omega) (by have := (colE_small HC0.out).2.1; omega) (by have := (colE_small HC0.out).2.2.1; omega) (fun y hy => by have := HWL.out.1 y (by simp [hy]); omega))
        have hne : ((ws.length : Int) + 1 == 0) = false := by rw [beq_eq_false_iff_ne]; omega
        generalize addW c (x :: ws) = A at *
        simp only [List.length_cons] at HRD hc2 ⊢
        go_wp2_with fail
        refine HRD.out.mono ?_
        rintro e w3 ⟨ho3, hm⟩
        have HBZ3 := Lib.hid (HST2.out.1.onl ho3 (by omega))
        have HO3 := Lib.hid (HO2.out.trans ho3)
        have HKW3 : Hid (Kept w w3) := HK1.out.trans' (HO3.out.below HK1.out.size (fun i h => by omega))
        clear ho3
        have b0 : w3.cell? ⟨w.heap.size, 0, none⟩ = some (.slice none 0 0) := HBZ3.out.cell 0 _ rfl
        have b1 : w3.cell? ⟨w.heap.size, 1, none⟩ = some (.slice none 0 0) := HBZ3.out.cell 1 _ rfl
        have b2 : w3.cell? ⟨w.heap.size, 2, none⟩ = some (.string (bs [])) := HBZ3.out.cell 2 _ rfl
        have f0 := HBZ3.out.free 0
        have f1 := HBZ3.out.free 1
        have f2 := HBZ3.out.free 2
        have z3 := HBZ3.out.lt
        cases A with
        | none =>
          obtain rfl : e = .returned (.bool false) := hm
          have HE : Hid (R = (zeroC, (k : Int) + 1, 5)) := HP
          go_wp2_with fail
          refine bodyPost_ret (v := .tuple #[colV (.slice none 0 0) (.slice none 0 0) [], .int .i64 ((k : Int) + 1), .int .i64 5]) (by simp [results, Tryz.results37, go_sem, b0, b1, b2, z3]) rfl ?_
          exact ⟨_, _, by rw [HE.out]; rfl, by rw [HE.out]; exact col_zero _, kept3 HKW3.out (Nat.le_refl _)⟩
        | some c' =>
          obtain ⟨rfl, hst3⟩ : e = .returned (.bool true) ∧ ColSt w3 (w.heap.size + 1) w1.heap.size c' := hm
          have HP2 : Hid (R = if colE c' ≠ 0 then (zeroC, (k : Int) + 1, colE c') else colR (ls.drop (k + 1)) (k + 1) c') := HP
          have HST3 := Lib.hid hst3
          obtain ⟨vR, vO, hb3, hR3, hO3⟩ := hst3
          have HCOL := Lib.hid (show Col w3 vR vO c' from ⟨Prs.own hR3, Strs.own hO3⟩)
          obtain ⟨aR, cR, rfl, _, _, _⟩ := own_cap hR3
          obtain ⟨aO, cO, rfl, _, _, _⟩ := own_cap hO3
          have e0 : w3.cell? ⟨w.heap.size + 1, 0, none⟩ = some (.slice aR c'.ranks.length cR) := hb3.cell 0 _ rfl
          have e1 : w3.cell? ⟨w.heap.size + 1, 1, none⟩ = some (.slice aO c'.order.length cO) := hb3.cell 1 _ rfl
          have e2 : w3.cell? ⟨w.heap.size + 1, 2, none⟩ = some (.string (bs c'.ignore)) := hb3.cell 2 _ rfl
          have y3 := hb3.lt
          have HCK := Lib.hid (fun w hw => colcheck_any (.slice aR c'.ranks.length cR) (.slice aO c'.order.length cO) c' w hw (HAD.out c' rfl))
          obtain ⟨E, HE⟩ : ∃ E, Hid (colE c' = E) := ⟨_, rfl⟩
          simp only [HE.out] at HCK HP2
          clear hb3 hR3 hO3
          go_wp2_with fail
          refine (HCK.out _ HCOL.out).mono ?_
          rintro e w4 ⟨rfl, hk4⟩
          have HBZ4 := Lib.hid (HBZ3.out.kept hk4)
          have HST4 := Lib.hid (HST3.out.kept hk4)
          have HO4 := Lib.hid (HO3.out.trans (Only.of_kept hk4))
          have HKW4 := Lib.hid (HKW3.out.trans hk4)
          clear hk4 e0 e1 e2 y3 b0 b1 b2 f0 f1 f2 z3
          by_cases hE : E = 0
          · subst hE
            rw [if_neg (by simp)] at HP2
            go_wp2_with fail
            go_roundw
            case rel => exact ⟨k + 1, c', by omega, by go_num, HP2.out, HE.out, ⟨HBZ4.out, HST4.out⟩, HO4.out⟩
            case measure => simp [intOf]; omega
          · rw [if_pos hE] at HP2
            have hE' : (E == 0) = false := by simpa using hE
            have b0 : w4.cell? ⟨w.heap.size, 0, none⟩ = some (.slice none 0 0) := HBZ4.out.cell 0 _ rfl
            have b1 : w4.cell? ⟨w.heap.size, 1, none⟩ = some (.slice none 0 0) := HBZ4.out.cell 1 _ rfl
            have b2 : w4.cell? ⟨w.heap.size, 2, none⟩ = some (.string (bs [])) := HBZ4.out.cell 2 _ rfl
            have f0 := HBZ4.out.free 0
            have f1 := HBZ4.out.free 1
            have f2 := HBZ4.out.free 2
            have z3 := HBZ4.out.lt
            go_wp2_with fail
            refine bodyPost_ret (v := .tuple #[colV (.slice none 0 0) (.slice none 0 0) [], .int .i64 ((k : Int) + 1), .int .i64 E]) (by simp [results, Tryz.results37, go_sem, b0, b1, b2, z3]) rfl ?_
            exact ⟨_, _, by rw [HP2.out]; rfl, by rw [HP2.out]; exact col_zero _, kept3 HKW4.out (Nat.le_refl _)⟩
    · have HE : Hid (R = (c, 0, 0)) := by
        have h := HP.out
        rw [List.drop_of_length_le (by omega)] at h
        exact h
      obtain ⟨vR, vO, hb3, hR3, hO3⟩ := HST.out.2
      have HBZ := Lib.hid HST.out.1
      have HRR := Lib.hid (And.intro hR3 hO3)
      obtain ⟨aR, cR, rfl, _, _, _⟩ := own_cap hR3
      obtain ⟨aO, cO, rfl, _, _, _⟩ := own_cap hO3
      have e0 : wr.cell? ⟨w.heap.size + 1, 0, none⟩ = some (.slice aR c.ranks.length cR) := hb3.cell 0 _ rfl
      have e1 : wr.cell? ⟨w.heap.size + 1, 1, none⟩ = some (.slice aO c.order.length cO) := hb3.cell 1 _ rfl
      have e2 : wr.cell? ⟨w.heap.size + 1, 2, none⟩ = some (.string (bs c.ignore)) := hb3.cell 2 _ rfl
      have y3 := hb3.lt
      have b0 : wr.cell? ⟨w.heap.size, 0, none⟩ = some (.slice none 0 0) := HBZ.out.cell 0 _ rfl
      have b1 : wr.cell? ⟨w.heap.size, 1, none⟩ = some (.slice none 0 0) := HBZ.out.cell 1 _ rfl
      have b2 : wr.cell? ⟨w.heap.size, 2, none⟩ = some (.string (bs [])) := HBZ.out.cell 2 _ rfl
      have f0 := HBZ.out.free 0
      have f1 := HBZ.out.free 1
      have f2 := HBZ.out.free 2
      have z3 := HBZ.out.lt
      clear hb3 hR3 hO3
      go_wp2_with fail
      refine bodyPost_ret (v := .tuple #[colV (.slice aR c.ranks.length cR) (.slice aO c.order.length cO) c.ignore, .int .i64 0, .int .i64 0]) (by simp [results, Tryz.results37, go_sem, b0, b1, b2, z3]) rfl ?_
      exact ⟨_, _, by rw [HE.out], by rw [HE.out]; exact ⟨Prs.own (own_set3 HRR.out.1 HBZ.out (by decide)), Strs.own (own_set3 HRR.out.2 HBZ.out (by decide))⟩, kept3 HKW.out (Nat.le_refl _)⟩
end Go.Proofs.YtpfbdgcgpghifaaGreatDoor

/- Text of collate. Conditions: lengths. -/
set_option linter.all false
namespace Go.Proofs.YtpfbdgcgpghifaaGreatDoor
open Go.RowKit

theorem run_add {P : Program} (a b : Bs) (ha : a.length ≤ 4000000000) (hb : b.length ≤ 4000000000) (w : World) : (Op.stringOp .add (bs a) (bs b)).run P w = .ok (.string (bs (a ++ b))) w := by
  rw [run_string_add_sum w (bs a) (bs b) (by simp only [bs_size]; omega), bs_append]
theorem join_le (xs : List Bs) (n : Nat) (h : ∀ x ∈ xs, x.length ≤ n) : (Lib.join xs [32]).length ≤ xs.length * (n + 1) := by
  induction xs with
  | nil => simp [Lib.join_nil]
  | cons x xs ih =>
    have h1 := h x (by simp)
    have h2 := ih (fun y hy => h y (by simp [hy]))
    cases xs with
    | nil => rw [Lib.join_one]; simp; omega
    | cons y r =>
      rw [join_2]
      simp only [List.length_append, List.length_cons, List.length_nil] at h2 ⊢
      rw [Nat.add_mul] at h2 ⊢
      rw [Nat.add_mul]
      omega
theorem joinLn_len (xs : List Bs) (n : Nat) (h : ∀ x ∈ xs, x.length ≤ n) : (joinLn xs).length ≤ xs.length * (n + 1) := by
  induction xs with
  | nil => simp [joinLn]
  | cons x xs ih =>
    have h1 := h x (by simp)
    have h2 := ih (fun y hy => h y (by simp [hy]))
    have e : joinLn (x :: xs) = x ++ [10] ++ joinLn xs := by simp [joinLn]
    rw [e]
    simp only [List.length_append, List.length_cons, List.length_nil]
    rw [Nat.add_mul]; omega
def ordLine (c : ColT) : List Bs := if c.order = [] then [] else [[111, 114, 100, 101, 114, 32] ++ Lib.join c.order [32]]
def ignLine (c : ColT) : List Bs := if c.ignore = [] then [] else [[105, 103, 110, 111, 114, 101, 32] ++ c.ignore]
theorem colL_is (c : ColT) : colL c = ordLine c ++ c.ranks.map rankLine ++ ignLine c := rfl
theorem colL_le {c : ColT} (h : colE c = 0) : (colL c).length ≤ 130 ∧ ∀ x ∈ colL c, x.length ≤ 30000 := by
  obtain ⟨h1, h2, h3, h4, h5⟩ := colE_small h
  rw [colL_is]
  refine ⟨?_, fun x hx => ?_⟩
  · unfold ordLine ignLine
    simp only [List.length_append, List.length_map]
    split <;> split <;> simp <;> omega
  · rcases List.mem_append.1 hx with hx | hx
    · rcases List.mem_append.1 hx with hx | hx
      · unfold ordLine at hx
        split at hx
        · cases hx
        · simp only [List.mem_singleton] at hx
          subst hx
          have := join_le c.order 200 h4
          simp only [List.length_append, List.length_cons, List.length_nil]
          have h6 : c.order.length * 201 ≤ 128 * 201 := Nat.mul_le_mul_right _ h1
          omega
      · obtain ⟨p, hp, rfl⟩ := List.mem_map.1 hx
        have := h5 p hp
        unfold rankLine
        simp only [List.length_append, List.length_cons, List.length_nil]; omega
    · unfold ignLine at hx
      split at hx
      · cases hx
      · simp only [List.mem_singleton] at hx
        subst hx
        simp only [List.length_append, List.length_cons, List.length_nil]; omega
set_option maxRecDepth 100000 in
set_option maxHeartbeats 6400000 in
theorem ctext_any (vR vO : Value) (c : ColT) (w : World) (hv : Col w vR vO c) (hs : SmallC c) :
    Calls Tryz.prog 38 #[colV vR vO c.ignore] w fun e w' => e = .returned (.tuple #[.string (bs (colS c)), .int .i64 (colE c)]) ∧ Kept w w' := by
  obtain ⟨i0, hi, hz0, hz1, hz2⟩ := info_parts Tryz.infoStr
  have HV := Lib.hid hv
  have HCK := Lib.hid (fun w h => colcheck_any vR vO c w h hs)
  obtain ⟨aR, cR, rfl, lR⟩ := hv.1.form
  obtain ⟨aO, cO, rfl, lO⟩ := hv.2.form
  clear hv hs
  have HB := Lib.hid (Blk.new w 25 #[.slice aR c.ranks.length cR, .slice aO c.order.length cO, .string (bs c.ignore)])
  have HK0 := Lib.hid (kept_alloc w (.cells #[.slice aR c.ranks.length cR, .slice aO c.order.length cO, .string (bs c.ignore)] 25))
  have HS0 : Hid (colE c ≠ 0 → colS c = []) := fun h => by unfold colS; rw [if_neg h]
  have HS1 : Hid (colE c = 0 → colS c = joinLn (ordLine c ++ c.ranks.map rankLine ++ ignLine c)) := fun h => by unfold colS; rw [if_pos h, colL_is]
  have HSZ : Hid (colE c = 0 → (colL c).length ≤ 130 ∧ ∀ x ∈ colL c, x.length ≤ 30000) := fun h => colL_le h
  have HSM : Hid (colE c = 0 → c.order.length ≤ 128 ∧ c.ranks.length ≤ 128 ∧ c.ignore.length ≤ 200 ∧ (∀ s ∈ c.order, s.length ≤ 200) ∧ ∀ p ∈ c.ranks, p.1.length ≤ 200 ∧ p.2.length ≤ 200) := fun h => colE_small h
  generalize colS c = T at *
  generalize colE c = E at *
  go_enter Tryz.func38, Tryz.ntmps38
  go_wp2_with fail
  refine (HCK.out _ (HV.out.kept HK0.out)).mono ?_
  rintro e w1 ⟨rfl, hk1⟩
  have HB1 := Lib.hid (HB.out.kept hk1)
  have HK1 := Lib.hid (HK0.out.trans hk1)
  clear hk1
  by_cases hE : E = 0
  case neg =>
    have hE' : (E == 0) = false := by simpa using hE
    have HT := Lib.hid (HS0.out hE)
    go_wp2_with fail
    go_ret2
    exact ⟨by rw [HT.out]; rfl, HK1.out⟩
  subst hE
  have HT := Lib.hid (HS1.out rfl)
  obtain ⟨s1, s2, s3, s4, s5⟩ := HSM.out rfl
  obtain ⟨l1, l2⟩ := HSZ.out rfl
  rw [colL_is] at l1 l2
  have HL := Lib.hid l2
  have HS4 := Lib.hid s4
  have HS5 := Lib.hid s5
  clear l2 s4 s5 HS0 HS1 HSZ HSM
  have b0 : w1.cell? ⟨w.heap.size, 0, none⟩ = some (.slice aR c.ranks.length cR) := HB1.out.cell 0 _ rfl
  have b1 : w1.cell? ⟨w.heap.size, 1, none⟩ = some (.slice aO c.order.length cO) := HB1.out.cell 1 _ rfl
  have z1 := HB1.out.lt
  by_cases h0 : c.order = []
  · have HL1 : Hid (ordLine c = []) := by show _ = _; unfold ordLine; rw [if_pos h0]
    have hl0 : c.order.length = 0 := by rw [h0]; rfl
    have hl0' : ((c.order.length : Int) == 0) = true := by rw [hl0]; rfl
    go_wp2_with fail
    (try simp only [mk_bs])
    go_loopw [5, 27] (fun v i wr => ∃ (k : Nat) (ys : List Bs), k ≤ c.ranks.length ∧ i = .int .i64 k ∧ ys.length ≤ 1 + k ∧ wr.ownsRow w1.heap.size 9 1 v ys.length (strCells ys) ∧ Hid (ys = ordLine c ++ (c.ranks.take k).map rankLine) ∧ Hid (Kept w1 wr)) (fun _ i _ => c.ranks.length - (intOf i).toNat)
    case atStart => exact ⟨0, [], Nat.zero_le _, rfl, by simp, World.ownsRow_nil _ _ _ _, by show _ = _; rw [HL1.out]; rfl, Kept.refl _⟩
    case round =>
      clear b0 b1 z1
      obtain ⟨k, ys, hk, rfl, hyl, hown, HA, HK⟩ := hrel
      have hsz : w1.heap.size ≤ wr.heap.size := HK.out.size
      by_cases hlt : k < c.ranks.length
      · obtain ⟨p, hx⟩ : ∃ x, c.ranks[k]? = some x := ⟨_, List.getElem?_eq_getElem hlt⟩
        obtain ⟨hp1, hp2⟩ := HS5.out p (List.mem_of_getElem? hx)
        obtain ⟨g, o, rfl, hg, d0, d1, _, _⟩ := (HV.out.1.kept (HK1.out.trans HK.out)).cell_of k p hx
        have HN : Hid (ordLine c ++ (c.ranks.take (k + 1)).map rankLine = ys ++ [rankLine p]) := by
          show _ = _
          obtain ⟨hk', rfl⟩ := List.getElem?_eq_some_iff.1 hx
          rw [List.take_succ_eq_append_getElem hk', HA.out, List.map_append, List.append_assoc]; rfl
        obtain ⟨x, y⟩ := p
        simp only at hp1 hp2 d0 d1
        have ad1 := fun w => run_add (P := Tryz.prog) [97, 115, 32] x (by simp) (by omega) w
        have ad2 := fun w => run_add (P := Tryz.prog) ([97, 115, 32] ++ x) [32] (by simp; omega) (by simp) w
        have ad3 := fun w => run_add (P := Tryz.prog) ([97, 115, 32] ++ x ++ [32]) y (by simp; omega) (by omega) w
        have HRL : Hid (rankLine (x, y) = [97, 115, 32] ++ x ++ [32] ++ y) := rfl
        rw [HRL.out] at HN
        generalize hz3 : [97, 115, 32] ++ x ++ [32] ++ y = s3 at *
        generalize hz2' : [97, 115, 32] ++ x ++ [32] = s2 at *
        generalize hz1' : [97, 115, 32] ++ x = s1 at *
        clear hz3 hz2' hz1' HRL hx
        have hown2 := hown.alloc (.cells #[.string (bs x), .string (bs y)] 62)
        have HKA := Lib.hid (HK.out.trans (kept_alloc wr (.cells #[.string (bs x), .string (bs y)] 62)))
        clear hown
        go_wp2_with (at_builtin; refine wpList_append_own _ rfl _ _ 23 rfl w1.heap.size 9 i0 (.string ⟨#[]⟩) 1 16 Tryz.underlying23 hi hz0 hz1 hz2 rfl (by decide) _ _ _ rfl (hown2.alloc _) ⟨wr.heap.size + 1, 0, none⟩ 1 1 [.string (bs s3)] rfl rfl (new_cells _ #[.string (bs s3)] _ _ (by simp)) (by intro u hu; simp at hu; subst hu; rfl) (by unfold maxLen; omega) (by omega) (by simp; omega) ?_; intro v' w2 hown3 hgrow _)
        have HB2 := Lib.hid ((HKA.out.trans (kept_alloc _ _)).trans' (grown_below (hown2.alloc _) hgrow (by simp; omega)))
        rw [← strCells_snoc] at hown3
        have HO := Lib.hid hown3
        clear hown3 hgrow hown2
        go_wp2_with fail
        go_roundw
        case rel => exact ⟨k + 1, ys ++ [s3], by omega, by go_num, by simp; omega, by simpa using HO.out, HN.out.symm, HB2.out⟩
        case measure => simp [intOf]; omega
      · have HAL : Hid (ys = ordLine c ++ c.ranks.map rankLine) := by
          have h := HA.out
          rw [List.take_of_length_le (by omega)] at h
          exact h
        have b2 : wr.cell? ⟨w.heap.size, 2, none⟩ = some (.string (bs c.ignore)) := (HB1.out.kept HK.out).cell 2 _ rfl
        have z2 := (HB1.out.kept HK.out).lt
        rw [← HAL.out] at HT HL l1
        by_cases hig : c.ignore = []
        · have HIG : Hid (ignLine c = []) := by show _ = _; unfold ignLine; rw [if_pos hig]
          rw [HIG.out, List.append_nil] at HT HL l1
          have HSS := Lib.hid (Strs.own hown)
          have HJ := Lib.hid (fun v w h => ljoin_any v ys w h (by omega) (by have := joinLn_len ys 30000 HL.out; have h7 : ys.length * 30001 ≤ 130 * 30001 := Nat.mul_le_mul_right _ l1; omega))
          obtain ⟨ay, cy, hvy, hcy, _, _⟩ := own_cap hown
          subst hvy
          clear hown
          generalize c.ignore = ig at *
          subst hig
          generalize joinLn ys = J at *
          go_wp2_with fail
          refine (HJ.out _ _ HSS.out).mono ?_
          rintro e w5 ⟨rfl, hk5⟩
          have HK5 := Lib.hid (HK1.out.trans (HK.out.trans hk5))
          clear hk5
          go_wp2_with fail
          go_ret2
          exact ⟨by rw [HT.out]; rfl, HK5.out⟩
        · have HIG : Hid (ignLine c = [[105, 103, 110, 111, 114, 101, 32] ++ c.ignore]) := by show _ = _; unfold ignLine; rw [if_neg hig]
          rw [HIG.out] at HT HL l1
          have hig' : (c.ignore == []) = false := by simpa using hig
          have ad1 := fun w => run_add (P := Tryz.prog) [105, 103, 110, 111, 114, 101, 32] c.ignore (by simp) (by omega) w
          generalize hzz : [105, 103, 110, 111, 114, 101, 32] ++ c.ignore = s3 at *
          clear hzz
          have HJ := Lib.hid (fun v w h => ljoin_any v (ys ++ [s3]) w h (by omega) (by have := joinLn_len (ys ++ [s3]) 30000 HL.out; have h7 : (ys ++ [s3]).length * 30001 ≤ 130 * 30001 := Nat.mul_le_mul_right _ l1; omega))
          generalize joinLn (ys ++ [s3]) = J at *
          go_wp2_with (at_builtin; refine wpList_append_own _ rfl _ _ 23 rfl w1.heap.size 9 i0 (.string ⟨#[]⟩) 1 16 Tryz.underlying23 hi hz0 hz1 hz2 rfl (by decide) _ _ _ rfl (hown.alloc _) ⟨wr.heap.size, 0, none⟩ 1 1 [.string (bs s3)] rfl rfl ?_ ?_ ?_ ?_ ?_ ?_)
          · exact new_cells _ #[.string (bs s3)] _ _ (by simp)
          · intro u hu; simp at hu; subst hu; rfl
          · unfold maxLen; omega
          · omega
          · simp; omega
          intro v' w2 hown3 hgrow _
          have HB2 := Lib.hid ((HK.out.trans (kept_alloc _ _)).trans' (grown_below (hown.alloc _) hgrow (by simp; omega)))
          rw [← strCells_snoc] at hown3
          have HSS : Hid (Strs w2 v' (ys ++ [s3])) := Strs.own (by simpa using hown3)
          obtain ⟨ay, cy, hvy, hcy, _, _⟩ := own_cap hown3
          subst hvy
          clear hown3 hgrow hown
          go_wp2_with fail
          refine (HJ.out _ _ HSS.out).mono ?_
          rintro e w5 ⟨rfl, hk5⟩
          have HK5 := Lib.hid (HK1.out.trans (HB2.out.trans hk5))
          clear hk5
          go_wp2_with fail
          go_ret2
          exact ⟨by rw [HT.out]; rfl, HK5.out⟩
  · have HL1 : Hid (ordLine c = [[111, 114, 100, 101, 114, 32] ++ Lib.join c.order [32]]) := by show _ = _; unfold ordLine; rw [if_neg h0]
    have hl0 : 0 < c.order.length := List.length_pos_iff.2 h0
    have hjl : (Lib.join c.order [32]).length ≤ 30000 := by
      have := join_le c.order 200 HS4.out
      have h6 : c.order.length * 201 ≤ 128 * 201 := Nat.mul_le_mul_right _ s1
      omega
    have HJN := Lib.hid (fun w h => join_any (.slice aO c.order.length cO) c.order [32] w h (by omega) (by omega))
    have ad0 := fun w => run_add (P := Tryz.prog) [111, 114, 100, 101, 114, 32] (Lib.join c.order [32]) (by simp) (by omega) w
    generalize hzz : [111, 114, 100, 101, 114, 32] ++ Lib.join c.order [32] = s0 at *
    clear hzz
    generalize Lib.join c.order [32] = j0 at *
    go_wp2_with fail
    refine (HJN.out _ (HV.out.2.kept HK1.out)).mono ?_
    rintro e w4 ⟨rfl, hk4⟩
    have HB4 := Lib.hid (HB1.out.kept hk4)
    have HK4 := Lib.hid (HK1.out.trans hk4)
    have hown4 : w4.ownsRow w4.heap.size 9 1 (.slice none 0 0) 0 [] := World.ownsRow_nil _ _ _ _
    clear hk4 b0 b1 z1
    generalize w1 = w1x at HB1 HK1
    clear HB1 HK1
    have b0 : w4.cell? ⟨w.heap.size, 0, none⟩ = some (.slice aR c.ranks.length cR) := HB4.out.cell 0 _ rfl
    have z1 := HB4.out.lt
    go_wp2_with (at_builtin; refine wpList_append_own _ rfl _ _ 23 rfl w4.heap.size 9 i0 (.string ⟨#[]⟩) 1 16 Tryz.underlying23 hi hz0 hz1 hz2 rfl (by decide) _ _ _ rfl (hown4.alloc _) ⟨w4.heap.size, 0, none⟩ 1 1 [.string (bs s0)] rfl rfl ?_ ?_ ?_ ?_ ?_ ?_)
    · exact new_cells _ #[.string (bs s0)] _ _ (by simp)
    · intro u hu; simp at hu; subst hu; rfl
    · unfold maxLen; omega
    · omega
    · simp
    intro v' w6 hown6 hgrow _
    have hk6 : Kept w4 w6 := (kept_alloc w4 (.cells #[.string (bs s0)] 9)).trans' (grown_below (hown4.alloc _) hgrow (by simp))
    have hO6 : w6.ownsRow w4.heap.size 9 1 v' [s0].length (strCells [s0]) := by simpa [strCells] using hown6
    have HO6 := Lib.hid hO6
    have HK6 := Lib.hid hk6
    have b0 : w6.cell? ⟨w.heap.size, 0, none⟩ = some (.slice aR c.ranks.length cR) := (HB4.out.kept hk6).cell 0 _ rfl
    have z6 := (HB4.out.kept hk6).lt
    have b1 := z6
    clear hown6 hgrow hown4 hO6 hk6
    go_wp2_with fail
    (try simp only [mk_bs])
    go_loopw [5, 27] (fun v i wr => ∃ (k : Nat) (ys : List Bs), k ≤ c.ranks.length ∧ i = .int .i64 k ∧ ys.length ≤ 1 + k ∧ wr.ownsRow w4.heap.size 9 1 v ys.length (strCells ys) ∧ Hid (ys = ordLine c ++ (c.ranks.take k).map rankLine) ∧ Hid (Kept w4 wr)) (fun _ i _ => c.ranks.length - (intOf i).toNat)
    case atStart => exact ⟨0, [s0], Nat.zero_le _, rfl, by simp, HO6.out, by show _ = _; rw [HL1.out]; simp, HK6.out⟩
    case round =>
      clear b0 b1 z1 z6
      obtain ⟨k, ys, hk, rfl, hyl, hown, HA, HK⟩ := hrel
      have hsz : w4.heap.size ≤ wr.heap.size := HK.out.size
      by_cases hlt : k < c.ranks.length
      · obtain ⟨p, hx⟩ : ∃ x, c.ranks[k]? = some x := ⟨_, List.getElem?_eq_getElem hlt⟩
        obtain ⟨hp1, hp2⟩ := HS5.out p (List.mem_of_getElem? hx)
        obtain ⟨g, o, rfl, hg, d0, d1, _, _⟩ := (HV.out.1.kept (HK4.out.trans HK.out)).cell_of k p hx
        have HN : Hid (ordLine c ++ (c.ranks.take (k + 1)).map rankLine = ys ++ [rankLine p]) := by
          show _ = _
          obtain ⟨hk', rfl⟩ := List.getElem?_eq_some_iff.1 hx
          rw [List.take_succ_eq_append_getElem hk', HA.out, List.map_append, List.append_assoc]; rfl
        obtain ⟨x, y⟩ := p
        simp only at hp1 hp2 d0 d1
        have ad1 := fun w => run_add (P := Tryz.prog) [97, 115, 32] x (by simp) (by omega) w
        have ad2 := fun w => run_add (P := Tryz.prog) ([97, 115, 32] ++ x) [32] (by simp; omega) (by simp) w
        have ad3 := fun w => run_add (P := Tryz.prog) ([97, 115, 32] ++ x ++ [32]) y (by simp; omega) (by omega) w
        have HRL : Hid (rankLine (x, y) = [97, 115, 32] ++ x ++ [32] ++ y) := rfl
        rw [HRL.out] at HN
        generalize hz3 : [97, 115, 32] ++ x ++ [32] ++ y = s3 at *
        generalize hz2' : [97, 115, 32] ++ x ++ [32] = s2 at *
        generalize hz1' : [97, 115, 32] ++ x = s1 at *
        clear hz3 hz2' hz1' HRL hx
        have hown2 := hown.alloc (.cells #[.string (bs x), .string (bs y)] 62)
        have HKA := Lib.hid (HK.out.trans (kept_alloc wr (.cells #[.string (bs x), .string (bs y)] 62)))
        clear hown
        go_wp2_with (at_builtin; refine wpList_append_own _ rfl _ _ 23 rfl w4.heap.size 9 i0 (.string ⟨#[]⟩) 1 16 Tryz.underlying23 hi hz0 hz1 hz2 rfl (by decide) _ _ _ rfl (hown2.alloc _) ⟨wr.heap.size + 1, 0, none⟩ 1 1 [.string (bs s3)] rfl rfl (new_cells _ #[.string (bs s3)] _ _ (by simp)) (by intro u hu; simp at hu; subst hu; rfl) (by unfold maxLen; omega) (by omega) (by simp; omega) ?_; intro v' w2 hown3 hgrow _)
        have HB2 := Lib.hid ((HKA.out.trans (kept_alloc _ _)).trans' (grown_below (hown2.alloc _) hgrow (by simp; omega)))
        rw [← strCells_snoc] at hown3
        have HO := Lib.hid hown3
        clear hown3 hgrow hown2
        go_wp2_with fail
        go_roundw
        case rel => exact ⟨k + 1, ys ++ [s3], by omega, by go_num, by simp; omega, by simpa using HO.out, HN.out.symm, HB2.out⟩
        case measure => simp [intOf]; omega
      · have HAL : Hid (ys = ordLine c ++ c.ranks.map rankLine) := by
          have h := HA.out
          rw [List.take_of_length_le (by omega)] at h
          exact h
        have b2 : wr.cell? ⟨w.heap.size, 2, none⟩ = some (.string (bs c.ignore)) := (HB4.out.kept HK.out).cell 2 _ rfl
        have z2 := (HB4.out.kept HK.out).lt
        rw [← HAL.out] at HT HL l1
        by_cases hig : c.ignore = []
        · have HIG : Hid (ignLine c = []) := by show _ = _; unfold ignLine; rw [if_pos hig]
          rw [HIG.out, List.append_nil] at HT HL l1
          have HSS := Lib.hid (Strs.own hown)
          have HJ := Lib.hid (fun v w h => ljoin_any v ys w h (by omega) (by have := joinLn_len ys 30000 HL.out; have h7 : ys.length * 30001 ≤ 130 * 30001 := Nat.mul_le_mul_right _ l1; omega))
          obtain ⟨ay, cy, hvy, hcy, _, _⟩ := own_cap hown
          subst hvy
          clear hown
          generalize c.ignore = ig at *
          subst hig
          generalize joinLn ys = J at *
          go_wp2_with fail
          refine (HJ.out _ _ HSS.out).mono ?_
          rintro e w5 ⟨rfl, hk5⟩
          have HK5 := Lib.hid (HK4.out.trans (HK.out.trans hk5))
          clear hk5
          go_wp2_with fail
          go_ret2
          exact ⟨by rw [HT.out]; rfl, HK5.out⟩
        · have HIG : Hid (ignLine c = [[105, 103, 110, 111, 114, 101, 32] ++ c.ignore]) := by show _ = _; unfold ignLine; rw [if_neg hig]
          rw [HIG.out] at HT HL l1
          have hig' : (c.ignore == []) = false := by simpa using hig
          have ad1 := fun w => run_add (P := Tryz.prog) [105, 103, 110, 111, 114, 101, 32] c.ignore (by simp) (by omega) w
          generalize hzz : [105, 103, 110, 111, 114, 101, 32] ++ c.ignore = s3 at *
          clear hzz
          have HJ := Lib.hid (fun v w h => ljoin_any v (ys ++ [s3]) w h (by omega) (by have := joinLn_len (ys ++ [s3]) 30000 HL.out; have h7 : (ys ++ [s3]).length * 30001 ≤ 130 * 30001 := Nat.mul_le_mul_right _ l1; omega))
          generalize joinLn (ys ++ [s3]) = J at *
          go_wp2_with (at_builtin; refine wpList_append_own _ rfl _ _ 23 rfl w4.heap.size 9 i0 (.string ⟨#[]⟩) 1 16 Tryz.underlying23 hi hz0 hz1 hz2 rfl (by decide) _ _ _ rfl (hown.alloc _) ⟨wr.heap.size, 0, none⟩ 1 1 [.string (bs s3)] rfl rfl ?_ ?_ ?_ ?_ ?_ ?_)
          · exact new_cells _ #[.string (bs s3)] _ _ (by simp)
          · intro u hu; simp at hu; subst hu; rfl
          · unfold maxLen; omega
          · omega
          · simp; omega
          intro v' w2 hown3 hgrow _
          have HB2 := Lib.hid ((HK.out.trans (kept_alloc _ _)).trans' (grown_below (hown.alloc _) hgrow (by simp; omega)))
          rw [← strCells_snoc] at hown3
          have HSS : Hid (Strs w2 v' (ys ++ [s3])) := Strs.own (by simpa using hown3)
          obtain ⟨ay, cy, hvy, hcy, _, _⟩ := own_cap hown3
          subst hvy
          clear hown3 hgrow hown
          go_wp2_with fail
          refine (HJ.out _ _ HSS.out).mono ?_
          rintro e w5 ⟨rfl, hk5⟩
          have HK5 := Lib.hid (HK4.out.trans (HB2.out.trans hk5))
          clear hk5
          go_wp2_with fail
          go_ret2
          exact ⟨by rw [HT.out]; rfl, HK5.out⟩
end Go.Proofs.YtpfbdgcgpghifaaGreatDoor
