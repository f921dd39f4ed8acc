/- index.paragraph: the paragraph of an entry; its line is merged. Conditions: lengths. -/
import Derived.Test.YtnbhpmleboildaaGreatDoorY21
import Derived.Test.YtnbhpmleboildaaGreatDoorY11
import Derived.Test.YtnbhpmleboildaaGreatDoorY25
import Derived.Test.YtnbhpmleboildaaGreatDoorY20
import Derived.Test.YtnbhpmleboildaaGreatDoorY10
import Derived.Test.YtnbhpmleboildaaGreatDoorY12
import Derived.Test.YtnbhpmleboildaaGreatDoorY04
import Derived.Lib.ItoaLen
import Derived.Deep.CutRange

set_option linter.all false
namespace Go.Proofs.YtnbhpmleboildaaGreatDoor
open Go.RowKit

/-- What an entry is as a value. -/
abbrev entA (lvl : Int) (text : Bs) (vR : Value) : Value := .agg #[.int .i64 lvl, .string (bs []), .string (bs text), .slice none 0 0, vR]
/-- A block of a kind with a line and kids alone. -/
abbrev blkV (kind : Int) (vL vK : Value) : Value := .agg #[.int .i64 kind, .int .i64 0, .string (bs []), .string (bs []), .string (bs []), .string (bs []), .string (bs []), .slice none 0 0, .slice none 0 0, vL, vK]
def ParP (w : World) (e : Ending) (w' : World) : Prop := ∃ vL zs, e = .returned (blkV 1 vL (.slice none 0 0)) ∧ Lns (fun g => w.heap.size ≤ g) 2 w' vL zs ∧ zs.length ≤ 3000 ∧ Kept w w'
theorem Cits.none0 (S : Nat → Prop) (w : World) : Cits S w (.slice none 0 0) [] := RowR.none_ _ _ _ _
theorem textK (n : Nat) (S : Nat → Prop) (w : World) (t : Bs) : InlK n S w [.int .i64 1, .string (bs t), .string (bs []), .string (bs []), .string (bs []), .slice none 0 0, .slice none 0 0, .slice none 0 0, .slice none 0 0, .slice none 0 0] (Inl.mk 1 t [] [] [] [] [] [] [] []) :=
  ⟨_, _, _, _, _, rfl, ⟨Strs.none_ _, InB.nil _ _⟩, ⟨Prs.none_ _, InB.nil _ _⟩, ⟨Strs.none_ _, InB.nil _ _⟩, Cits.none0 _ _, Lns.none_ _ _ _⟩
theorem linkK {n : Nat} {S : Nat → Prop} {w : World} {d : Bs} {vK : Value} {zs : List Inl} (h : Lns S n w vK zs) : InlK n S w [.int .i64 9, .string (bs []), .string (bs d), .string (bs []), .string (bs []), .slice none 0 0, .slice none 0 0, .slice none 0 0, .slice none 0 0, vK] (Inl.mk 9 [] d [] [] [] [] [] [] zs) :=
  ⟨_, _, _, _, _, rfl, ⟨Strs.none_ _, InB.nil _ _⟩, ⟨Prs.none_ _, InB.nil _ _⟩, ⟨Strs.none_ _, InB.nil _ _⟩, Cits.none0 _ _, h⟩
theorem Tryz.sizeBk2 : (Tryz.prog.info? 38).map (fun x => x.size) = some 11 := by kernel_rfl
theorem okIL_app : ∀ (a b : List Inl), okIL a → okIL b → okIL (a ++ b)
  | [], _, _, h => h
  | _ :: a, b, h, k => ⟨h.1, okIL_app a b h.2 k⟩
theorem Lib.itoa_short (n : Int) (h0 : 0 ≤ n) (h1 : n ≤ 100000) : (Lib.itoa n).length ≤ 1000 := by
  have := Lib.itoa_length_le n (by omega) (by omega)
  omega
set_option maxRecDepth 100000 in
set_option maxHeartbeats 12800000 in
theorem ipara_any (lvl : Int) (text : Bs) (refs : List Bs) (vR : Value) (w : World) (ht : Lib.TabIs Tryz.prog w "internal/strconv.uint64pow10" .u64 Lib.pow10Tab) (hR : Strs w vR refs) (htl : text.length ≤ 1000000) (hrl : refs.length ≤ 1000) (hid : ∀ x ∈ refs, x.length ≤ 900000) :
    Calls Tryz.prog 32 #[entA lvl text vR] w (ParP w) := by
  obtain ⟨i0, hi, hz0, hz1, hz2⟩ := info_parts Tryz.infoIn4
  have HR := Lib.hid hR
  have HTB := Lib.hid ht
  have HID := Lib.hid hid
  obtain ⟨aR, cR, rfl, lR⟩ := hR.shape
  have HMG := Lib.hid (fun (xs : List Inl) (v : Value) w' (h : Lns (fun g => w.heap.size ≤ g) 2 w' v xs) (h1 : xs.length ≤ 1000000) (h2 : okIL xs) => merge_any 2 xs v w' h h1 h2)
  unfold MgP at HMG
  have HB0 := ((Blk.new w 44 #[.int .i64 lvl, .string (bs []), .string (bs text), .slice none 0 0, .slice aR refs.length cR]).alloc (.cells #[.int .i64 0, .int .i64 0, .string (bs []), .string (bs []), .string (bs []), .string (bs []), .string (bs []), .slice none 0 0, .slice none 0 0, .slice none 0 0, .slice none 0 0] 38)).alloc (.cells #[.int .i64 1, .string (bs text), .string (bs []), .string (bs []), .string (bs []), .slice none 0 0, .slice none 0 0, .slice none 0 0, .slice none 0 0, .slice none 0 0] 51)
  have HC0 := (Blk.new (w.alloc (.cells #[.int .i64 lvl, .string (bs []), .string (bs text), .slice none 0 0, .slice aR refs.length cR] 44)) 38 #[.int .i64 0, .int .i64 0, .string (bs []), .string (bs []), .string (bs []), .string (bs []), .string (bs []), .slice none 0 0, .slice none 0 0, .slice none 0 0, .slice none 0 0]).alloc (.cells #[.int .i64 1, .string (bs text), .string (bs []), .string (bs []), .string (bs []), .slice none 0 0, .slice none 0 0, .slice none 0 0, .slice none 0 0, .slice none 0 0] 51)
  have HL0 := Blk.new ((w.alloc (.cells #[.int .i64 lvl, .string (bs []), .string (bs text), .slice none 0 0, .slice aR refs.length cR] 44)).alloc (.cells #[.int .i64 0, .int .i64 0, .string (bs []), .string (bs []), .string (bs []), .string (bs []), .string (bs []), .slice none 0 0, .slice none 0 0, .slice none 0 0, .slice none 0 0] 38)) 51 #[.int .i64 1, .string (bs text), .string (bs []), .string (bs []), .string (bs []), .slice none 0 0, .slice none 0 0, .slice none 0 0, .slice none 0 0, .slice none 0 0]
  have HK0 := Lib.hid (((kept_alloc w (.cells #[.int .i64 lvl, .string (bs []), .string (bs text), .slice none 0 0, .slice aR refs.length cR] 44)).trans (kept_alloc _ (.cells #[.int .i64 0, .int .i64 0, .string (bs []), .string (bs []), .string (bs []), .string (bs []), .string (bs []), .slice none 0 0, .slice none 0 0, .slice none 0 0, .slice none 0 0] 38))).trans (kept_alloc _ (.cells #[.int .i64 1, .string (bs text), .string (bs []), .string (bs []), .string (bs []), .slice none 0 0, .slice none 0 0, .slice none 0 0, .slice none 0 0, .slice none 0 0] 51)))
  obtain ⟨B, HBB⟩ : ∃ B, Hid (w.heap.size = B) := ⟨_, rfl⟩
  simp only [World.size_alloc, HBB.out] at HB0 HC0 HL0
  have HB1 := Lib.hid HB0
  have HC1 := Lib.hid HC0
  have HL1 := Lib.hid HL0
  have HWB : Hid (w.heap.size ≤ B) := by rw [HBB.out]; exact Nat.le_refl _
  clear HB0 HC0 HL0 hR ht hid
  go_enter Tryz.func32, Tryz.ntmps32
  go_wp2_with fail
  rw [HBB.out]
  generalize (World.alloc (World.alloc (World.alloc w _) _) _) = w1 at *
  have HO0 : Hid (OutG (InlK 1) 10 (fun g => w.heap.size ≤ g) (B + 1 + 1) 51 w1 (.slice (some ⟨B + 1 + 1, 0, none⟩) 1 1) [(Inl.mk 1 text [] [] [] [] [] [] [] [])]) := OutG.one_ (cs := [.int .i64 1, .string (bs text), .string (bs []), .string (bs []), .string (bs []), .slice none 0 0, .slice none 0 0, .slice none 0 0, .slice none 0 0, .slice none 0 0]) HL1.out rfl (Nat.le_refl _) (textK 1 _ _ text)
  have hBw := HWB.out
  go_loopw [3, 15] (fun o i wr => ∃ (k : Nat) (ys : List Inl), k ≤ refs.length ∧ i = .int .i64 k ∧ ys.length = 1 + 2 * k ∧ okIL ys ∧ Hid (OutG (InlK 1) 10 (fun g => w.heap.size ≤ g) (B + 1 + 1) 51 wr o ys) ∧ Hid (Only (fun g => B + 1 + 1 ≤ g) w1 wr)) (fun _ i _ => refs.length - (intOf i).toNat)
  case atStart => exact ⟨0, [(Inl.mk 1 text [] [] [] [] [] [] [] [])], Nat.zero_le _, rfl, rfl, ⟨⟨⟨htl, by decide, by decide, by decide, by decide, by decide, by decide, by decide, by decide⟩, trivial⟩, trivial⟩, HO0.out, Only.of_kept (Kept.refl w1)⟩
  case round =>
    obtain ⟨k, ys, hk, rfl, hyl, hyo, HOR, HKR⟩ := hrel
    have HYO := Lib.hid hyo
    have HYL := Lib.hid hyl
    clear hyo hyl
    have HKW : Hid (Kept w wr) := HK0.out.trans' (HKR.out.below HK0.out.size (fun i q => by omega))
    by_cases hlt : k < refs.length
    · obtain ⟨id, hx⟩ : ∃ id, refs[k]? = some id := ⟨_, List.getElem?_eq_getElem hlt⟩
      have hidl := HID.out id (List.mem_of_getElem? hx)
      obtain ⟨g, o, rfl, hg, d0, -, -⟩ := (HR.out.kept HKW.out).cell_of k id hx
      obtain ⟨ar, cr, rfl, hcr, hmr⟩ := HOR.out.form
      have HIT := Lib.hid (itoa_any ((k : Int) + 1) wr (by omega) (by omega) (tab_kept HTB.out HKW.out))
      have HNL := Lib.hid (Lib.itoa_short ((k : Int) + 1) (by omega) (by omega))
      clear hx
      by_cases hk0 : k = 0
      · subst hk0
        have d0' : wr.cell? ⟨g, o, none⟩ = some (.string (bs id)) := d0
        have HIT := Lib.hid (itoa_any 1 wr (by decide) (by decide) (tab_kept HTB.out HKW.out))
        have HNL : Hid ((Lib.itoa 1).length ≤ 1000) := HNL.out
        go_wp2_with fail
        refine HIT.out.mono ?_
        rintro e w4 ⟨rfl, hk4⟩
        have hJ0 := Blk.new w4 51 #[.int .i64 1, .string (bs (Lib.itoa 1)), .string (bs []), .string (bs []), .string (bs []), .slice none 0 0, .slice none 0 0, .slice none 0 0, .slice none 0 0, .slice none 0 0]
        have jc0 := hJ0.cell 0 _ rfl
        have jc1 := hJ0.cell 1 _ rfl
        have jc2 := hJ0.cell 2 _ rfl
        have jc3 := hJ0.cell 3 _ rfl
        have jc4 := hJ0.cell 4 _ rfl
        have jc5 := hJ0.cell 5 _ rfl
        have jc6 := hJ0.cell 6 _ rfl
        have jc7 := hJ0.cell 7 _ rfl
        have jc8 := hJ0.cell 8 _ rfl
        have jc9 := hJ0.cell 9 _ rfl
        have jz := hJ0.lt
        have hwr4 : wr.heap.size ≤ w4.heap.size := hk4.size
        have hka := kept_alloc w4 (.cells #[.int .i64 1, .string (bs (Lib.itoa 1)), .string (bs []), .string (bs []), .string (bs []), .slice none 0 0, .slice none 0 0, .slice none 0 0, .slice none 0 0, .slice none 0 0] 51)
        have hkb := kept_alloc (w4.alloc (.cells #[.int .i64 1, .string (bs (Lib.itoa 1)), .string (bs []), .string (bs []), .string (bs []), .slice none 0 0, .slice none 0 0, .slice none 0 0, .slice none 0 0, .slice none 0 0] 51)) (.cells #[.int .i64 1, .string (bs (Lib.itoa 1)), .string (bs []), .string (bs []), .string (bs []), .slice none 0 0, .slice none 0 0, .slice none 0 0, .slice none 0 0, .slice none 0 0] 51)
        have hkc := kept_alloc ((w4.alloc (.cells #[.int .i64 1, .string (bs (Lib.itoa 1)), .string (bs []), .string (bs []), .string (bs []), .slice none 0 0, .slice none 0 0, .slice none 0 0, .slice none 0 0, .slice none 0 0] 51)).alloc (.cells #[.int .i64 1, .string (bs (Lib.itoa 1)), .string (bs []), .string (bs []), .string (bs []), .slice none 0 0, .slice none 0 0, .slice none 0 0, .slice none 0 0, .slice none 0 0] 51)) (.cells #[.int .i64 1, .string (bs [32]), .string (bs []), .string (bs []), .string (bs []), .slice none 0 0, .slice none 0 0, .slice none 0 0, .slice none 0 0, .slice none 0 0, .int .i64 9, .string (bs []), .string (bs (35 :: id)), .string (bs []), .string (bs []), .slice none 0 0, .slice none 0 0, .slice none 0 0, .slice none 0 0, .slice (some ⟨w4.heap.size + 1, 0, none⟩) 1 1] 51)
        have hb1 := Blk.new (w4.alloc (.cells #[.int .i64 1, .string (bs (Lib.itoa 1)), .string (bs []), .string (bs []), .string (bs []), .slice none 0 0, .slice none 0 0, .slice none 0 0, .slice none 0 0, .slice none 0 0] 51)) 51 #[.int .i64 1, .string (bs (Lib.itoa 1)), .string (bs []), .string (bs []), .string (bs []), .slice none 0 0, .slice none 0 0, .slice none 0 0, .slice none 0 0, .slice none 0 0]
        have hr2 := Blk.new ((w4.alloc (.cells #[.int .i64 1, .string (bs (Lib.itoa 1)), .string (bs []), .string (bs []), .string (bs []), .slice none 0 0, .slice none 0 0, .slice none 0 0, .slice none 0 0, .slice none 0 0] 51)).alloc (.cells #[.int .i64 1, .string (bs (Lib.itoa 1)), .string (bs []), .string (bs []), .string (bs []), .slice none 0 0, .slice none 0 0, .slice none 0 0, .slice none 0 0, .slice none 0 0] 51)) 51 #[.int .i64 1, .string (bs [32]), .string (bs []), .string (bs []), .string (bs []), .slice none 0 0, .slice none 0 0, .slice none 0 0, .slice none 0 0, .slice none 0 0, .int .i64 9, .string (bs []), .string (bs (35 :: id)), .string (bs []), .string (bs []), .slice none 0 0, .slice none 0 0, .slice none 0 0, .slice none 0 0, .slice (some ⟨w4.heap.size + 1, 0, none⟩) 1 1]
        simp only [World.size_alloc] at hb1 hr2
        have hwz : wr.heap.size ≤ (((w4.alloc (.cells #[.int .i64 1, .string (bs (Lib.itoa 1)), .string (bs []), .string (bs []), .string (bs []), .slice none 0 0, .slice none 0 0, .slice none 0 0, .slice none 0 0, .slice none 0 0] 51)).alloc (.cells #[.int .i64 1, .string (bs (Lib.itoa 1)), .string (bs []), .string (bs []), .string (bs []), .slice none 0 0, .slice none 0 0, .slice none 0 0, .slice none 0 0, .slice none 0 0] 51)).alloc (.cells #[.int .i64 1, .string (bs [32]), .string (bs []), .string (bs []), .string (bs []), .slice none 0 0, .slice none 0 0, .slice none 0 0, .slice none 0 0, .slice none 0 0, .int .i64 9, .string (bs []), .string (bs (35 :: id)), .string (bs []), .string (bs []), .slice none 0 0, .slice none 0 0, .slice none 0 0, .slice none 0 0, .slice (some ⟨w4.heap.size + 1, 0, none⟩) 1 1] 51)).heap.size := (hk4.trans ((hka.trans hkb).trans hkc)).size
        have hwz2 : ((w4.alloc (.cells #[.int .i64 1, .string (bs (Lib.itoa 1)), .string (bs []), .string (bs []), .string (bs []), .slice none 0 0, .slice none 0 0, .slice none 0 0, .slice none 0 0, .slice none 0 0] 51)).alloc (.cells #[.int .i64 1, .string (bs (Lib.itoa 1)), .string (bs []), .string (bs []), .string (bs []), .slice none 0 0, .slice none 0 0, .slice none 0 0, .slice none 0 0, .slice none 0 0] 51)).heap.size = w4.heap.size + 1 + 1 := by simp only [World.size_alloc]
        have hb7 : B + 1 + 1 ≤ (((w4.alloc (.cells #[.int .i64 1, .string (bs (Lib.itoa 1)), .string (bs []), .string (bs []), .string (bs []), .slice none 0 0, .slice none 0 0, .slice none 0 0, .slice none 0 0, .slice none 0 0] 51)).alloc (.cells #[.int .i64 1, .string (bs (Lib.itoa 1)), .string (bs []), .string (bs []), .string (bs []), .slice none 0 0, .slice none 0 0, .slice none 0 0, .slice none 0 0, .slice none 0 0] 51)).alloc (.cells #[.int .i64 1, .string (bs [32]), .string (bs []), .string (bs []), .string (bs []), .slice none 0 0, .slice none 0 0, .slice none 0 0, .slice none 0 0, .slice none 0 0, .int .i64 9, .string (bs []), .string (bs (35 :: id)), .string (bs []), .string (bs []), .slice none 0 0, .slice none 0 0, .slice none 0 0, .slice none 0 0, .slice (some ⟨w4.heap.size + 1, 0, none⟩) 1 1] 51)).heap.size := by have h1 := HKR.out.size; have h2 := HL1.out.lt; omega
        have hkids : Lns (fun g => g = w4.heap.size + 1) 1 (((w4.alloc (.cells #[.int .i64 1, .string (bs (Lib.itoa 1)), .string (bs []), .string (bs []), .string (bs []), .slice none 0 0, .slice none 0 0, .slice none 0 0, .slice none 0 0, .slice none 0 0] 51)).alloc (.cells #[.int .i64 1, .string (bs (Lib.itoa 1)), .string (bs []), .string (bs []), .string (bs []), .slice none 0 0, .slice none 0 0, .slice none 0 0, .slice none 0 0, .slice none 0 0] 51)).alloc (.cells #[.int .i64 1, .string (bs [32]), .string (bs []), .string (bs []), .string (bs []), .slice none 0 0, .slice none 0 0, .slice none 0 0, .slice none 0 0, .slice none 0 0, .int .i64 9, .string (bs []), .string (bs (35 :: id)), .string (bs []), .string (bs []), .slice none 0 0, .slice none 0 0, .slice none 0 0, .slice none 0 0, .slice (some ⟨w4.heap.size + 1, 0, none⟩) 1 1] 51)) (.slice (some ⟨w4.heap.size + 1, 0, none⟩) 1 1) [(Inl.mk 1 (Lib.itoa 1) [] [] [] [] [] [] [] [])] :=
          Lns.sam (S := fun g => w4.heap.size + 1 ≤ g) (n := 1) (show Lns (fun g => w4.heap.size + 1 ≤ g) 1 ((w4.alloc (.cells #[.int .i64 1, .string (bs (Lib.itoa 1)), .string (bs []), .string (bs []), .string (bs []), .slice none 0 0, .slice none 0 0, .slice none 0 0, .slice none 0 0, .slice none 0 0] 51)).alloc (.cells #[.int .i64 1, .string (bs (Lib.itoa 1)), .string (bs []), .string (bs []), .string (bs []), .slice none 0 0, .slice none 0 0, .slice none 0 0, .slice none 0 0, .slice none 0 0] 51)) _ _ from OutG.row (S := fun g => w4.heap.size + 1 ≤ g) (inlK 0) (OutG.one_ (R := InlK 0) (k := 10) (A := fun g => w4.heap.size + 1 ≤ g) (base := w4.heap.size + 1) (cs := [.int .i64 1, .string (bs (Lib.itoa 1)), .string (bs []), .string (bs []), .string (bs []), .slice none 0 0, .slice none 0 0, .slice none 0 0, .slice none 0 0, .slice none 0 0]) (x := (Inl.mk 1 (Lib.itoa 1) [] [] [] [] [] [] [] [])) hb1 rfl (Nat.le_refl _) (textK 0 _ _ _)) (fun g _ q => q) (fun g q => q)) (Sam.kept hkc) (fun g hlt q => by omega)
        have hwB : w.heap.size ≤ w4.heap.size := Nat.le_trans HKW.out.size hwr4
        have hob : ∀ g, (Value.slice ar ys.length cr).ownBlock = some g → g < wr.heap.size := fun g q => (HOR.out.blk g q).2
        have hys : OutG (InlK 1) 10 (fun g => w.heap.size ≤ g ∧ (Value.slice ar ys.length cr).ownBlock ≠ some g) (B + 1 + 1) 51 (((w4.alloc (.cells #[.int .i64 1, .string (bs (Lib.itoa 1)), .string (bs []), .string (bs []), .string (bs []), .slice none 0 0, .slice none 0 0, .slice none 0 0, .slice none 0 0, .slice none 0 0] 51)).alloc (.cells #[.int .i64 1, .string (bs (Lib.itoa 1)), .string (bs []), .string (bs []), .string (bs []), .slice none 0 0, .slice none 0 0, .slice none 0 0, .slice none 0 0, .slice none 0 0] 51)).alloc (.cells #[.int .i64 1, .string (bs [32]), .string (bs []), .string (bs []), .string (bs []), .slice none 0 0, .slice none 0 0, .slice none 0 0, .slice none 0 0, .slice none 0 0, .int .i64 9, .string (bs []), .string (bs (35 :: id)), .string (bs []), .string (bs []), .slice none 0 0, .slice none 0 0, .slice none 0 0, .slice none 0 0, .slice (some ⟨w4.heap.size + 1, 0, none⟩) 1 1] 51)) (.slice (some ⟨w4.heap.size + 1 + 1, 0, none⟩) 2 2) [(Inl.mk 1 [32] [] [] [] [] [] [] [] []), (Inl.mk 9 [] (35 :: id) [] [] [] [] [] [] [(Inl.mk 1 (Lib.itoa 1) [] [] [] [] [] [] [] [])])] :=
          OutG.many (css := [[.int .i64 1, .string (bs [32]), .string (bs []), .string (bs []), .string (bs []), .slice none 0 0, .slice none 0 0, .slice none 0 0, .slice none 0 0, .slice none 0 0], [.int .i64 9, .string (bs []), .string (bs (35 :: id)), .string (bs []), .string (bs []), .slice none 0 0, .slice none 0 0, .slice none 0 0, .slice none 0 0, .slice (some ⟨w4.heap.size + 1, 0, none⟩) 1 1]]) hr2 (fun cs hc => by
            simp only [List.mem_cons, List.not_mem_nil, or_false] at hc
            rcases hc with rfl | rfl <;> rfl) rfl (by unfold maxLen; simp only [List.length_cons, List.length_nil]; omega) (by have h1 := HKR.out.size; have h2 := HL1.out.lt; omega) (fun j cs x hc hx => by
            match j, hc, hx with
            | 0, hc, hx => cases hc; cases hx; exact textK 1 _ _ _
            | 1, hc, hx =>
              cases hc; cases hx
              exact linkK (hkids.mono (fun g _ q => ⟨⟨by omega, fun r => by have := hob g r; omega⟩, by omega⟩))
            | j + 2, hc, hx => simp at hc)
        have HYS := Lib.hid hys
        have HG7 := Lib.hid (HOR.out.kept (inlK 1) (hk4.trans ((hka.trans hkb).trans hkc)))
        have HK7 := Lib.hid (HKR.out.trans (Only.of_kept (hk4.trans ((hka.trans hkb).trans hkc))))
        have hyn := HYL.out
        have HNW : Hid (okIL (ys ++ [(Inl.mk 1 [32] [] [] [] [] [] [] [] []), (Inl.mk 9 [] (35 :: id) [] [] [] [] [] [] [(Inl.mk 1 (Lib.itoa 1) [] [] [] [] [] [] [] [])])])) := okIL_app ys _ HYO.out ⟨⟨⟨by decide, by decide, by decide, by decide, by decide, by decide, by decide, by decide, by decide⟩, trivial⟩, ⟨⟨by decide, by rw [List.length_cons]; omega, by decide, by decide, by decide, by decide, by decide, by decide, by simp⟩, ⟨⟨Nat.le_trans HNL.out (by decide), by decide, by decide, by decide, by decide, by decide, by decide, by decide, by decide⟩, trivial⟩, trivial⟩, trivial⟩
        have HYN : Hid ((ys ++ [(Inl.mk 1 [32] [] [] [] [] [] [] [] []), (Inl.mk 9 [] (35 :: id) [] [] [] [] [] [] [(Inl.mk 1 (Lib.itoa 1) [] [] [] [] [] [] [] [])])]).length = 1 + 2 * (0 + 1)) := by show _ = _; rw [List.length_append, HYL.out]; simp only [List.length_cons, List.length_nil] <;> omega
        have hyb : ys.length ≤ 3000 := by omega
        clear hJ0 hka hkb hkc hb1 hr2 hkids hys hob hk4 hwz hwz2 hyn hwB hwr4
        go_wp2_with (at_builtin; refine holdQ ?_)
        refine Lib.hid ?_
        refine wpList_append_outz (inlK 1) rfl (.tmp 26) (.tmp 34) 36 rfl i0 _ 192 Tryz.underlying36 hi hz0 hz1 hz2 rfl (by omega) (by rfl) HG7.out (w4.heap.size + 1 + 1) 2 2 (by rfl) HYS.out (by simp) (by unfold maxLen; simp; omega) (by simp; omega) hb7 _ rfl ?_
        intro g7 c7' w17 hout7 hgrow7 hat7
        have HO7 := Lib.hid hout7
        have HK17 : Hid (Only (fun g => B + 1 + 1 ≤ g) w1 w17) := HK7.out.trans ((Only.grown hgrow7).mono (fun i _ q => (HG7.out.blk i q.symm).1))
        clear hout7 hgrow7 hat7 HG7 HYS HK7 jz jc0 jc1 jc2 jc3 jc4 jc5 jc6 jc7 jc8 jc9
        go_wp2_with fail
        go_roundw
        case rel => exact ⟨0 + 1, _, by omega, by go_num, HYN.out, HNW.out, HO7.out, HK17.out⟩
        case measure => simp [intOf]; omega
      · have hkb : ((k : Int) == 0) = false := by rw [beq_eq_false_iff_ne]; omega
        skip
        go_wp2_with fail
        refine HIT.out.mono ?_
        rintro e w4 ⟨rfl, hk4⟩
        have hJ0 := Blk.new w4 51 #[.int .i64 1, .string (bs (Lib.itoa ((k : Int) + 1))), .string (bs []), .string (bs []), .string (bs []), .slice none 0 0, .slice none 0 0, .slice none 0 0, .slice none 0 0, .slice none 0 0]
        have jc0 := hJ0.cell 0 _ rfl
        have jc1 := hJ0.cell 1 _ rfl
        have jc2 := hJ0.cell 2 _ rfl
        have jc3 := hJ0.cell 3 _ rfl
        have jc4 := hJ0.cell 4 _ rfl
        have jc5 := hJ0.cell 5 _ rfl
        have jc6 := hJ0.cell 6 _ rfl
        have jc7 := hJ0.cell 7 _ rfl
        have jc8 := hJ0.cell 8 _ rfl
        have jc9 := hJ0.cell 9 _ rfl
        have jz := hJ0.lt
        have hwr4 : wr.heap.size ≤ w4.heap.size := hk4.size
        have hka := kept_alloc w4 (.cells #[.int .i64 1, .string (bs (Lib.itoa ((k : Int) + 1))), .string (bs []), .string (bs []), .string (bs []), .slice none 0 0, .slice none 0 0, .slice none 0 0, .slice none 0 0, .slice none 0 0] 51)
        have hkb := kept_alloc (w4.alloc (.cells #[.int .i64 1, .string (bs (Lib.itoa ((k : Int) + 1))), .string (bs []), .string (bs []), .string (bs []), .slice none 0 0, .slice none 0 0, .slice none 0 0, .slice none 0 0, .slice none 0 0] 51)) (.cells #[.int .i64 1, .string (bs (Lib.itoa ((k : Int) + 1))), .string (bs []), .string (bs []), .string (bs []), .slice none 0 0, .slice none 0 0, .slice none 0 0, .slice none 0 0, .slice none 0 0] 51)
        have hkc := kept_alloc ((w4.alloc (.cells #[.int .i64 1, .string (bs (Lib.itoa ((k : Int) + 1))), .string (bs []), .string (bs []), .string (bs []), .slice none 0 0, .slice none 0 0, .slice none 0 0, .slice none 0 0, .slice none 0 0] 51)).alloc (.cells #[.int .i64 1, .string (bs (Lib.itoa ((k : Int) + 1))), .string (bs []), .string (bs []), .string (bs []), .slice none 0 0, .slice none 0 0, .slice none 0 0, .slice none 0 0, .slice none 0 0] 51)) (.cells #[.int .i64 1, .string (bs [44, 32]), .string (bs []), .string (bs []), .string (bs []), .slice none 0 0, .slice none 0 0, .slice none 0 0, .slice none 0 0, .slice none 0 0, .int .i64 9, .string (bs []), .string (bs (35 :: id)), .string (bs []), .string (bs []), .slice none 0 0, .slice none 0 0, .slice none 0 0, .slice none 0 0, .slice (some ⟨w4.heap.size + 1, 0, none⟩) 1 1] 51)
        have hb1 := Blk.new (w4.alloc (.cells #[.int .i64 1, .string (bs (Lib.itoa ((k : Int) + 1))), .string (bs []), .string (bs []), .string (bs []), .slice none 0 0, .slice none 0 0, .slice none 0 0, .slice none 0 0, .slice none 0 0] 51)) 51 #[.int .i64 1, .string (bs (Lib.itoa ((k : Int) + 1))), .string (bs []), .string (bs []), .string (bs []), .slice none 0 0, .slice none 0 0, .slice none 0 0, .slice none 0 0, .slice none 0 0]
        have hr2 := Blk.new ((w4.alloc (.cells #[.int .i64 1, .string (bs (Lib.itoa ((k : Int) + 1))), .string (bs []), .string (bs []), .string (bs []), .slice none 0 0, .slice none 0 0, .slice none 0 0, .slice none 0 0, .slice none 0 0] 51)).alloc (.cells #[.int .i64 1, .string (bs (Lib.itoa ((k : Int) + 1))), .string (bs []), .string (bs []), .string (bs []), .slice none 0 0, .slice none 0 0, .slice none 0 0, .slice none 0 0, .slice none 0 0] 51)) 51 #[.int .i64 1, .string (bs [44, 32]), .string (bs []), .string (bs []), .string (bs []), .slice none 0 0, .slice none 0 0, .slice none 0 0, .slice none 0 0, .slice none 0 0, .int .i64 9, .string (bs []), .string (bs (35 :: id)), .string (bs []), .string (bs []), .slice none 0 0, .slice none 0 0, .slice none 0 0, .slice none 0 0, .slice (some ⟨w4.heap.size + 1, 0, none⟩) 1 1]
        simp only [World.size_alloc] at hb1 hr2
        have hwz : wr.heap.size ≤ (((w4.alloc (.cells #[.int .i64 1, .string (bs (Lib.itoa ((k : Int) + 1))), .string (bs []), .string (bs []), .string (bs []), .slice none 0 0, .slice none 0 0, .slice none 0 0, .slice none 0 0, .slice none 0 0] 51)).alloc (.cells #[.int .i64 1, .string (bs (Lib.itoa ((k : Int) + 1))), .string (bs []), .string (bs []), .string (bs []), .slice none 0 0, .slice none 0 0, .slice none 0 0, .slice none 0 0, .slice none 0 0] 51)).alloc (.cells #[.int .i64 1, .string (bs [44, 32]), .string (bs []), .string (bs []), .string (bs []), .slice none 0 0, .slice none 0 0, .slice none 0 0, .slice none 0 0, .slice none 0 0, .int .i64 9, .string (bs []), .string (bs (35 :: id)), .string (bs []), .string (bs []), .slice none 0 0, .slice none 0 0, .slice none 0 0, .slice none 0 0, .slice (some ⟨w4.heap.size + 1, 0, none⟩) 1 1] 51)).heap.size := (hk4.trans ((hka.trans hkb).trans hkc)).size
        have hwz2 : ((w4.alloc (.cells #[.int .i64 1, .string (bs (Lib.itoa ((k : Int) + 1))), .string (bs []), .string (bs []), .string (bs []), .slice none 0 0, .slice none 0 0, .slice none 0 0, .slice none 0 0, .slice none 0 0] 51)).alloc (.cells #[.int .i64 1, .string (bs (Lib.itoa ((k : Int) + 1))), .string (bs []), .string (bs []), .string (bs []), .slice none 0 0, .slice none 0 0, .slice none 0 0, .slice none 0 0, .slice none 0 0] 51)).heap.size = w4.heap.size + 1 + 1 := by simp only [World.size_alloc]
        have hb7 : B + 1 + 1 ≤ (((w4.alloc (.cells #[.int .i64 1, .string (bs (Lib.itoa ((k : Int) + 1))), .string (bs []), .string (bs []), .string (bs []), .slice none 0 0, .slice none 0 0, .slice none 0 0, .slice none 0 0, .slice none 0 0] 51)).alloc (.cells #[.int .i64 1, .string (bs (Lib.itoa ((k : Int) + 1))), .string (bs []), .string (bs []), .string (bs []), .slice none 0 0, .slice none 0 0, .slice none 0 0, .slice none 0 0, .slice none 0 0] 51)).alloc (.cells #[.int .i64 1, .string (bs [44, 32]), .string (bs []), .string (bs []), .string (bs []), .slice none 0 0, .slice none 0 0, .slice none 0 0, .slice none 0 0, .slice none 0 0, .int .i64 9, .string (bs []), .string (bs (35 :: id)), .string (bs []), .string (bs []), .slice none 0 0, .slice none 0 0, .slice none 0 0, .slice none 0 0, .slice (some ⟨w4.heap.size + 1, 0, none⟩) 1 1] 51)).heap.size := by have h1 := HKR.out.size; have h2 := HL1.out.lt; omega
        have hkids : Lns (fun g => g = w4.heap.size + 1) 1 (((w4.alloc (.cells #[.int .i64 1, .string (bs (Lib.itoa ((k : Int) + 1))), .string (bs []), .string (bs []), .string (bs []), .slice none 0 0, .slice none 0 0, .slice none 0 0, .slice none 0 0, .slice none 0 0] 51)).alloc (.cells #[.int .i64 1, .string (bs (Lib.itoa ((k : Int) + 1))), .string (bs []), .string (bs []), .string (bs []), .slice none 0 0, .slice none 0 0, .slice none 0 0, .slice none 0 0, .slice none 0 0] 51)).alloc (.cells #[.int .i64 1, .string (bs [44, 32]), .string (bs []), .string (bs []), .string (bs []), .slice none 0 0, .slice none 0 0, .slice none 0 0, .slice none 0 0, .slice none 0 0, .int .i64 9, .string (bs []), .string (bs (35 :: id)), .string (bs []), .string (bs []), .slice none 0 0, .slice none 0 0, .slice none 0 0, .slice none 0 0, .slice (some ⟨w4.heap.size + 1, 0, none⟩) 1 1] 51)) (.slice (some ⟨w4.heap.size + 1, 0, none⟩) 1 1) [(Inl.mk 1 (Lib.itoa ((k : Int) + 1)) [] [] [] [] [] [] [] [])] :=
          Lns.sam (S := fun g => w4.heap.size + 1 ≤ g) (n := 1) (show Lns (fun g => w4.heap.size + 1 ≤ g) 1 ((w4.alloc (.cells #[.int .i64 1, .string (bs (Lib.itoa ((k : Int) + 1))), .string (bs []), .string (bs []), .string (bs []), .slice none 0 0, .slice none 0 0, .slice none 0 0, .slice none 0 0, .slice none 0 0] 51)).alloc (.cells #[.int .i64 1, .string (bs (Lib.itoa ((k : Int) + 1))), .string (bs []), .string (bs []), .string (bs []), .slice none 0 0, .slice none 0 0, .slice none 0 0, .slice none 0 0, .slice none 0 0] 51)) _ _ from OutG.row (S := fun g => w4.heap.size + 1 ≤ g) (inlK 0) (OutG.one_ (R := InlK 0) (k := 10) (A := fun g => w4.heap.size + 1 ≤ g) (base := w4.heap.size + 1) (cs := [.int .i64 1, .string (bs (Lib.itoa ((k : Int) + 1))), .string (bs []), .string (bs []), .string (bs []), .slice none 0 0, .slice none 0 0, .slice none 0 0, .slice none 0 0, .slice none 0 0]) (x := (Inl.mk 1 (Lib.itoa ((k : Int) + 1)) [] [] [] [] [] [] [] [])) hb1 rfl (Nat.le_refl _) (textK 0 _ _ _)) (fun g _ q => q) (fun g q => q)) (Sam.kept hkc) (fun g hlt q => by omega)
        have hwB : w.heap.size ≤ w4.heap.size := Nat.le_trans HKW.out.size hwr4
        have hob : ∀ g, (Value.slice ar ys.length cr).ownBlock = some g → g < wr.heap.size := fun g q => (HOR.out.blk g q).2
        have hys : OutG (InlK 1) 10 (fun g => w.heap.size ≤ g ∧ (Value.slice ar ys.length cr).ownBlock ≠ some g) (B + 1 + 1) 51 (((w4.alloc (.cells #[.int .i64 1, .string (bs (Lib.itoa ((k : Int) + 1))), .string (bs []), .string (bs []), .string (bs []), .slice none 0 0, .slice none 0 0, .slice none 0 0, .slice none 0 0, .slice none 0 0] 51)).alloc (.cells #[.int .i64 1, .string (bs (Lib.itoa ((k : Int) + 1))), .string (bs []), .string (bs []), .string (bs []), .slice none 0 0, .slice none 0 0, .slice none 0 0, .slice none 0 0, .slice none 0 0] 51)).alloc (.cells #[.int .i64 1, .string (bs [44, 32]), .string (bs []), .string (bs []), .string (bs []), .slice none 0 0, .slice none 0 0, .slice none 0 0, .slice none 0 0, .slice none 0 0, .int .i64 9, .string (bs []), .string (bs (35 :: id)), .string (bs []), .string (bs []), .slice none 0 0, .slice none 0 0, .slice none 0 0, .slice none 0 0, .slice (some ⟨w4.heap.size + 1, 0, none⟩) 1 1] 51)) (.slice (some ⟨w4.heap.size + 1 + 1, 0, none⟩) 2 2) [(Inl.mk 1 [44, 32] [] [] [] [] [] [] [] []), (Inl.mk 9 [] (35 :: id) [] [] [] [] [] [] [(Inl.mk 1 (Lib.itoa ((k : Int) + 1)) [] [] [] [] [] [] [] [])])] :=
          OutG.many (css := [[.int .i64 1, .string (bs [44, 32]), .string (bs []), .string (bs []), .string (bs []), .slice none 0 0, .slice none 0 0, .slice none 0 0, .slice none 0 0, .slice none 0 0], [.int .i64 9, .string (bs []), .string (bs (35 :: id)), .string (bs []), .string (bs []), .slice none 0 0, .slice none 0 0, .slice none 0 0, .slice none 0 0, .slice (some ⟨w4.heap.size + 1, 0, none⟩) 1 1]]) hr2 (fun cs hc => by
            simp only [List.mem_cons, List.not_mem_nil, or_false] at hc
            rcases hc with rfl | rfl <;> rfl) rfl (by unfold maxLen; simp only [List.length_cons, List.length_nil]; omega) (by have h1 := HKR.out.size; have h2 := HL1.out.lt; omega) (fun j cs x hc hx => by
            match j, hc, hx with
            | 0, hc, hx => cases hc; cases hx; exact textK 1 _ _ _
            | 1, hc, hx =>
              cases hc; cases hx
              exact linkK (hkids.mono (fun g _ q => ⟨⟨by omega, fun r => by have := hob g r; omega⟩, by omega⟩))
            | j + 2, hc, hx => simp at hc)
        have HYS := Lib.hid hys
        have HG7 := Lib.hid (HOR.out.kept (inlK 1) (hk4.trans ((hka.trans hkb).trans hkc)))
        have HK7 := Lib.hid (HKR.out.trans (Only.of_kept (hk4.trans ((hka.trans hkb).trans hkc))))
        have hyn := HYL.out
        have HNW : Hid (okIL (ys ++ [(Inl.mk 1 [44, 32] [] [] [] [] [] [] [] []), (Inl.mk 9 [] (35 :: id) [] [] [] [] [] [] [(Inl.mk 1 (Lib.itoa ((k : Int) + 1)) [] [] [] [] [] [] [] [])])])) := okIL_app ys _ HYO.out ⟨⟨⟨by decide, by decide, by decide, by decide, by decide, by decide, by decide, by decide, by decide⟩, trivial⟩, ⟨⟨by decide, by rw [List.length_cons]; omega, by decide, by decide, by decide, by decide, by decide, by decide, by simp⟩, ⟨⟨Nat.le_trans HNL.out (by decide), by decide, by decide, by decide, by decide, by decide, by decide, by decide, by decide⟩, trivial⟩, trivial⟩, trivial⟩
        have HYN : Hid ((ys ++ [(Inl.mk 1 [44, 32] [] [] [] [] [] [] [] []), (Inl.mk 9 [] (35 :: id) [] [] [] [] [] [] [(Inl.mk 1 (Lib.itoa ((k : Int) + 1)) [] [] [] [] [] [] [] [])])]).length = 1 + 2 * (k + 1)) := by show _ = _; rw [List.length_append, HYL.out]; simp only [List.length_cons, List.length_nil] <;> omega
        have hyb : ys.length ≤ 3000 := by omega
        clear hJ0 hka hkb hkc hb1 hr2 hkids hys hob hk4 hwz hwz2 hyn hwB hwr4
        go_wp2_with (at_builtin; refine holdQ ?_)
        refine Lib.hid ?_
        refine wpList_append_outz (inlK 1) rfl (.tmp 26) (.tmp 34) 36 rfl i0 _ 192 Tryz.underlying36 hi hz0 hz1 hz2 rfl (by omega) (by rfl) HG7.out (w4.heap.size + 1 + 1) 2 2 (by rfl) HYS.out (by simp) (by unfold maxLen; simp; omega) (by simp; omega) hb7 _ rfl ?_
        intro g7 c7' w17 hout7 hgrow7 hat7
        have HO7 := Lib.hid hout7
        have HK17 : Hid (Only (fun g => B + 1 + 1 ≤ g) w1 w17) := HK7.out.trans ((Only.grown hgrow7).mono (fun i _ q => (HG7.out.blk i q.symm).1))
        clear hout7 hgrow7 hat7 HG7 HYS HK7 jz jc0 jc1 jc2 jc3 jc4 jc5 jc6 jc7 jc8 jc9
        go_wp2_with fail
        go_roundw
        case rel => exact ⟨k + 1, _, by omega, by go_num, HYN.out, HNW.out, HO7.out, HK17.out⟩
        case measure => simp [intOf]; omega
    · obtain rfl : k = refs.length := by omega
      obtain ⟨ar, cr, rfl, hcr, hmr⟩ := HOR.out.form
      have HLN : Hid (Lns (fun g => w.heap.size ≤ g) 2 wr (.slice ar ys.length cr) ys) := OutG.row (S := fun g => w.heap.size ≤ g) (inlK 1) HOR.out (fun g _ q => q) (fun g q => by omega)
      have hyn : ys.length ≤ 3000 := by have := HYL.out; omega
      have HMX := Lib.hid (HMG.out ys _ wr HLN.out (by omega) HYO.out)
      have HC2 := Lib.hid (HC1.out.onl HKR.out (by omega))
      clear HLN HKR HOR
      go_wp2_with fail
      refine HMX.out.mono ?_
      rintro e w5 ⟨vL, zs, rfl, hl5, hn5, hk5⟩
      obtain ⟨aL, cL, rfl, lL⟩ := hl5.form
      have HC5 := Lib.hid (HC2.out.kept hk5)
      have HK5 := Lib.hid (HKW.out.trans hk5)
      have HLZ : Hid (Lns (fun g => w.heap.size ≤ g ∧ g ≠ B + 1) 2 w5 (.slice aL zs.length cL) zs) := hl5.mono (fun g _ q => by have h1 := HKW.out.size; have h2 := HC2.out.lt; constructor <;> omega)
      clear hl5 hk5 HC2 HKW HMX
      go_wp2_with (refine wpList_store_blk rfl 38 (.tmp 2) (.tmp 39) (by rfl) (B + 1) _ #[.int .i64 1, .int .i64 0, .string (bs []), .string (bs []), .string (bs []), .string (bs []), .string (bs []), .slice none 0 0, .slice none 0 0, .slice aL zs.length cL, .slice none 0 0] (by rfl) (by rfl) HC5.out rfl Tryz.sizeBk2 (by simp only [List.all_toArray, List.all_cons, List.all_nil]; rfl) ?_; intro w9 hb9 ho9; refine holdQ ?_)
      refine Lib.hid ?_
      have r0 := hb9.cell 0 _ rfl
      have r1 := hb9.cell 1 _ rfl
      have r2 := hb9.cell 2 _ rfl
      have r3 := hb9.cell 3 _ rfl
      have r4 := hb9.cell 4 _ rfl
      have r5 := hb9.cell 5 _ rfl
      have r6 := hb9.cell 6 _ rfl
      have r7 := hb9.cell 7 _ rfl
      have r8 := hb9.cell 8 _ rfl
      have r9 := hb9.cell 9 _ rfl
      have r10 := hb9.cell 10 _ rfl
      have rz := hb9.lt
      have HFIN : ParP w (.returned (blkV 1 (.slice aL zs.length cL) (.slice none 0 0))) w9 := ⟨_, zs, rfl, (HLZ.out.sam (S' := fun g => w.heap.size ≤ g ∧ g ≠ B + 1) (Sam.only ho9 (fun g _ hs q => hs.2 q)) (fun _ _ q => q)).mono (fun g _ q => q.1), by omega, HK5.out.trans' (ho9.below HK5.out.size (fun i e => by rw [e]; omega))⟩
      clear hb9 ho9
      go_wp2_with fail
      refine bodyPost_ret (v := blkV 1 (.slice aL zs.length cL) (.slice none 0 0)) ?_ rfl HFIN
      simp [results, Tryz.results32, go_sem, r0, r1, r2, r3, r4, r5, r6, r7, r8, r9, r10, rz]
end Go.Proofs.YtnbhpmleboildaaGreatDoor

/- index.list: the list of entries as blocks. Conditions: lengths. -/
set_option linter.all false
namespace Go.Proofs.YtnbhpmleboildaaGreatDoor
open Go.RowKit

/-- A block of a kind with a line and kids alone. -/
abbrev bK (kind : Int) (line : List Inl) (kids : List Blo) : Blo := Blo.mk kind 0 [] [] [] [] [] [] [] line kids
def paraB (z : Blo) : Prop := ∃ zs, z = bK 1 zs []
def itemB (z : Blo) : Prop := ∃ p, paraB p ∧ z = bK 9 [] [p]
def groupB (z : Blo) : Prop := ∃ p more, paraB p ∧ (more = [] ∨ ∃ inn, more = [bK 7 [] inn] ∧ ∀ y ∈ inn, itemB y) ∧ z = bK 9 [] (p :: more)
def lvlE (es : List Ent) (k : Nat) : Int := ((es[k]?).map Ent.lvl).getD 0
/-- How many groups begin ahead of the place k. -/
def hdN (es : List Ent) : Nat → Nat
  | 0 => 0
  | k + 1 => hdN es k + if k = 0 ∨ lvlE es k ≠ 2 then 1 else 0
theorem hdN_le (es : List Ent) : ∀ k, hdN es k ≤ k
  | 0 => Nat.le_refl _
  | k + 1 => by
    have := hdN_le es k
    show hdN es k + _ ≤ _
    split <;> omega
theorem hdN_pos (es : List Ent) : ∀ {k : Nat}, 0 < k → 0 < hdN es k
  | 1, _ => by show 0 < 0 + _; rw [if_pos (.inl rfl)]; decide
  | k + 2, _ => by
    have := hdN_pos es (k := k + 1) (by omega)
    show 0 < hdN es (k + 1) + _
    omega
/-- What list gives. -/
def listB (es : List Ent) (ys : List Blo) : Prop := (es = [] ∧ ys = []) ∨ ∃ its, es ≠ [] ∧ ys = [bK 7 [] its] ∧ its.length = hdN es es.length ∧ (∀ z ∈ its, groupB z) ∧ (listL its).length ≤ 3 * es.length
def ListP (es : List Ent) (w : World) (e : Ending) (w' : World) : Prop := ∃ v ys, e = .returned v ∧ Bls (fun g => w.heap.size ≤ g) 2 5 w' v ys ∧ listB es ys ∧ Kept w w'
theorem blkK {n : Nat} {S : Nat → Prop} {w : World} {kind : Int} {vL vK : Value} {zs : List Inl} {ks : List Blo} (hL : Lns S 2 w vL zs) (hK : Bls S 2 n w vK ks) : BloK 2 n S w [.int .i64 kind, .int .i64 0, .string (bs []), .string (bs []), .string (bs []), .string (bs []), .string (bs []), .slice none 0 0, .slice none 0 0, vL, vK] (bK kind zs ks) :=
  ⟨_, _, _, _, rfl, ⟨Strs.none_ _, InB.nil _ _⟩, ⟨Prs.none_ _, InB.nil _ _⟩, hL, hK⟩
theorem RowR.kept5 {S : Nat → Prop} {w w' : World} {v : Value} {es : List Ent} (h : RowR S 5 (EntK S w) w v es) (k : Kept w w') : RowR S 5 (EntK S w') w' v es :=
  RowR.step h (Sam.kept k) (fun _ _ q => q) (fun _ _ _ hx => entKR.sam hx (Sam.kept k) (fun _ _ q => q))
def okE (es : List Ent) : Prop := ∀ x ∈ es, x.text.length ≤ 1000000 ∧ x.refs.length ≤ 1000 ∧ ∀ r ∈ x.refs, r.length ≤ 900000
/-- The length of a slice. -/
def lenV : Value → Nat
  | .slice _ n _ => n
  | _ => 0
theorem Tryz.infoBk4 : (Tryz.prog.info? 38).map (fun i => (i.zero, i.size, i.bytes)) = some (some (.agg #[.int .i64 0, .int .i64 0, .string ⟨#[]⟩, .string ⟨#[]⟩, .string ⟨#[]⟩, .string ⟨#[]⟩, .string ⟨#[]⟩, .slice none 0 0, .slice none 0 0, .slice none 0 0, .slice none 0 0]), 11, 192) := by kernel_rfl
set_option maxRecDepth 100000 in
set_option maxHeartbeats 12800000 in
theorem list_any {S : Nat → Prop} (es : List Ent) (v : Value) (w : World) (ht : Lib.TabIs Tryz.prog w "internal/strconv.uint64pow10" .u64 Lib.pow10Tab) (hv : RowR S 5 (EntK S w) w v es) (hok : okE es) (hl : es.length ≤ 1000000) :
    Calls Tryz.prog 18 #[v] w (ListP es w) := by
  obtain ⟨i0, hi, hz0, hz1, hz2⟩ := info_parts Tryz.infoBk4
  have HV := Lib.hid hv
  have HTB := Lib.hid ht
  have HOK := Lib.hid hok
  obtain ⟨a, c, rfl, hc⟩ := hv.form
  have HPA := Lib.hid (fun lvl text refs vR w' (h1 : Lib.TabIs Tryz.prog w' "internal/strconv.uint64pow10" .u64 Lib.pow10Tab) (h2 : Strs w' vR refs) h3 h4 h5 => ipara_any lvl text refs vR w' h1 h2 h3 h4 h5)
  unfold ParP at HPA
  by_cases hne : es = []
  · subst hne
    have HFIN : ListP [] w (.returned (.slice none 0 0)) w := ⟨_, [], rfl, Bls.none_ _ _ _ _, .inl ⟨rfl, rfl⟩, Kept.refl w⟩
    generalize hP : ListP [] w = P at *
    clear hP hv hok ht
    go_enter Tryz.func18, Tryz.ntmps18
    go_wp2_with fail
    go_loopw [0, 3] (fun s it wr => s = .slice a 0 c ∧ it = .slice none 0 0 ∧ w = wr) (fun _ _ _ => 1)
    case atStart => exact ⟨rfl, rfl, rfl⟩
    case round =>
      obtain ⟨rfl, rfl, rfl⟩ := hrel
      go_wp2_with fail
      (try go_ret)
      exact HFIN
  · have hpos : 0 < es.length := List.length_pos_iff.2 hne
    obtain ⟨x0, hx0⟩ : ∃ x, es[0]? = some x := ⟨_, List.getElem?_eq_getElem hpos⟩
    obtain ⟨g, o, -, rfl, -, -, -, -, -, -, -⟩ := RowR.at_ hv 0 x0 hx0
    have HFIN : Hid (∀ v its w', OutG (BloK 2 4) 11 (fun g => w.heap.size ≤ g) w.heap.size 38 w' v [bK 7 [] its] → its.length = hdN es es.length → (∀ z ∈ its, groupB z) → (listL its).length ≤ 3 * es.length → Kept w w' → ListP es w (.returned v) w') := fun v its w' h1 h2 h3 h5 h4 => ⟨v, [bK 7 [] its], rfl, OutG.row (S := fun g => w.heap.size ≤ g) (bloK 2 4) h1 (fun g _ h => h) (fun g h => h), .inr ⟨its, hne, rfl, h2, h3, h5⟩, h4⟩
    generalize hP : ListP es w = P at *
    clear hP hv hok ht hx0
    go_enter Tryz.func18, Tryz.ntmps18
    go_wp2_with fail
    go_loopw [0, 3] (fun s it wr => ∃ (k : Nat) (its : List Blo) (o1 : Nat), k ≤ es.length ∧ s = .slice (some ⟨g, o1, none⟩) (es.length - k) (c - k) ∧ (k < es.length → o1 = o + k * 5) ∧ (k < es.length → k = 0 ∨ lvlE es k ≠ 2) ∧ Hid (its.length = hdN es k) ∧ Hid (∀ z ∈ its, groupB z) ∧ Hid ((listL its).length ≤ 3 * k) ∧ Hid (OutG (BloK 2 3) 11 (fun g => w.heap.size ≤ g) w.heap.size 38 wr it its) ∧ Hid (Kept w wr)) (fun s _ _ => lenV s)
    case atStart => exact ⟨0, [], o, Nat.zero_le _, rfl, fun _ => by omega, fun _ => .inl rfl, rfl, fun z hz => (List.not_mem_nil hz).elim, Nat.zero_le _, OutG.nil _ _ _ _ _ _, Kept.refl w⟩
    case round =>
      obtain ⟨k, its, o1, hk, rfl, ho1, hkl, HIL, HIG, HIW, HOI, HKR⟩ := hrel
      by_cases hlt : k < es.length
      · obtain rfl := ho1 hlt
        obtain ⟨x, hx⟩ : ∃ x, es[k]? = some x := ⟨_, List.getElem?_eq_getElem hlt⟩
        obtain ⟨ok1, ok2, ok3⟩ := HOK.out x (List.mem_of_getElem? hx)
        obtain ⟨g', o', cs, he, hg, -, -, hcell, ⟨vR, rfl, hR, -⟩, -, -⟩ := RowR.at_ (HV.out.kept5 HKR.out) k x hx
        cases he
        have d0 : wr.cell? ⟨g, o + k * 5, none⟩ = some (.int .i64 x.lvl) := by simpa using hcell 0 _ rfl
        have d1 := hcell 1 _ rfl
        have d2 := hcell 2 _ rfl
        have d3 := hcell 3 _ rfl
        have d4 := hcell 4 _ rfl
        have HHD : Hid (hdN es (k + 1) = hdN es k + 1) := by
          show hdN es k + _ = _
          rw [if_pos (hkl hlt)]
        obtain ⟨lvl, text, refs⟩ := x
        obtain ⟨aR, cR, rfl, lR⟩ := hR.shape
        simp only at d0 d1 d2 d3 d4 hR ok1 ok2 ok3 ⊢
        have HPX := Lib.hid (HPA.out lvl text refs _ wr (tab_kept HTB.out HKR.out) hR ok1 ok2 ok3)
        obtain ⟨ai, ci, rfl, hci, hmi⟩ := HOI.out.form
        clear hcell hx hR ok3
        go_wp2_with fail
        refine HPX.out.mono ?_
        rintro e w1 ⟨vL, zs, rfl, hl1, hn1, hk1⟩
        obtain ⟨aL, cL, rfl, lL⟩ := hl1.form
        clear HPX d0 d1 d2 d3 d4
        have hk2' : Kept wr w1 := hk1
        have hka := kept_alloc w1 (.cells #[.int .i64 1, .int .i64 0, .string (bs []), .string (bs []), .string (bs []), .string (bs []), .string (bs []), .slice none 0 0, .slice none 0 0, .slice aL zs.length cL, .slice none 0 0] 38)
        have hb2 := Blk.new w1 38 #[.int .i64 1, .int .i64 0, .string (bs []), .string (bs []), .string (bs []), .string (bs []), .string (bs []), .slice none 0 0, .slice none 0 0, .slice aL zs.length cL, .slice none 0 0]
        obtain ⟨D, HD⟩ : ∃ D, Hid (w1.heap.size = D) := ⟨_, rfl⟩
        have hrD : wr.heap.size ≤ D := by have h1 := hk1.size; have h2 := HD.out; omega
        have hwr : w.heap.size ≤ wr.heap.size := HKR.out.size
        rw [HD.out] at hb2
        have HOK2 : Hid (OutG (BloK 2 2) 11 (fun g => wr.heap.size ≤ g) wr.heap.size 38 (w1.alloc (.cells #[.int .i64 1, .int .i64 0, .string (bs []), .string (bs []), .string (bs []), .string (bs []), .string (bs []), .slice none 0 0, .slice none 0 0, .slice aL zs.length cL, .slice none 0 0] 38)) (.slice (some ⟨D, 0, none⟩) 1 1) [bK 1 zs []]) :=
          OutG.one_ (cs := [.int .i64 1, .int .i64 0, .string (bs []), .string (bs []), .string (bs []), .string (bs []), .string (bs []), .slice none 0 0, .slice none 0 0, .slice aL zs.length cL, .slice none 0 0]) hb2 rfl hrD (blkK (hl1.sam (Sam.kept hka) (fun g h q => ⟨q, by have := HD.out; omega⟩)) (Bls.none_ _ _ _ _))
        have HK2 := Lib.hid (hk2'.trans hka)
        have HDS : Hid ((w1.alloc (.cells #[.int .i64 1, .int .i64 0, .string (bs []), .string (bs []), .string (bs []), .string (bs []), .string (bs []), .slice none 0 0, .slice none 0 0, .slice aL zs.length cL, .slice none 0 0] 38)).heap.size = D + 1) := by show _ = _; rw [World.size_alloc, HD.out]
        have hzn : zs.length ≤ 3000 := hn1
        clear hk2' hka hb2 hl1 hk1 hn1
        go_upto_region 4 with fail
        rw [HD.out]
        generalize w1.alloc _ = w2 at *
        obtain ⟨wO, rfl⟩ : ∃ wo : World, wo = wr := ⟨_, rfl⟩
        go_cut [0] from 6 to 49 (fun s wx => (∃ o', s = .slice (some ⟨g, o', none⟩) (es.length - (k + 1)) (c - (k + 1)) ∧ (k + 1 < es.length → o' = o + (k + 1) * 5)) ∧ wx = w2)
        case first =>
          by_cases hcap : c - k = 1
          · go_wp2_with fail
            go_meet
            case rel => exact ⟨⟨o + k * 5, by rw [show es.length - (k + 1) = es.length - k - 1 by omega, show c - (k + 1) = 0 by omega], fun q => by omega⟩, rfl⟩
          · go_wp2_with fail
            go_meet
            case rel => exact ⟨⟨o + k * 5 + 5, by rw [show es.length - (k + 1) = es.length - k - 1 by omega, show c - (k + 1) = c - k - 1 by omega], fun q => by omega⟩, rfl⟩
        case rest =>
          obtain ⟨⟨o1, rfl, ho1⟩, rfl⟩ := hcut
          go_wp2_with fail
          go_loopw [0, 5] (fun s inn wx => ∃ (j : Nat) (inns : List Blo) (o2 : Nat), k < j ∧ j ≤ es.length ∧ s = .slice (some ⟨g, o2, none⟩) (es.length - j) (c - j) ∧ (j < es.length → o2 = o + j * 5) ∧ Hid (hdN es j = hdN es k + 1) ∧ Hid (∀ y ∈ inns, itemB y) ∧ Hid (inns.length ≤ j ∧ (listL inns).length ≤ 2 * (j - k - 1)) ∧ Hid (OutG (BloK 2 1) 11 (fun g => D + 1 ≤ g) (D + 1) 38 wx inn inns) ∧ Hid (Kept wc wx)) (fun s _ _ => lenV s)
          case atStart => exact ⟨k + 1, [], o1, by omega, by omega, rfl, ho1, HHD.out, fun z hz => (List.not_mem_nil hz).elim, ⟨Nat.zero_le _, Nat.zero_le _⟩, OutG.nil _ _ _ _ _ _, Kept.refl wc⟩
          case round =>
            obtain ⟨j, inns, o2, hkj, hj, rfl, ho2, HHJ, HIB, HNL, HON, HKJ⟩ := hrel
            obtain ⟨an, cn, rfl, hcn, hmn⟩ := HON.out.form
            by_cases hlt2 : j < es.length
            · obtain rfl := ho2 hlt2
              obtain ⟨x, hx⟩ : ∃ x, es[j]? = some x := ⟨_, List.getElem?_eq_getElem hlt2⟩
              obtain ⟨ok1, ok2, ok3⟩ := HOK.out x (List.mem_of_getElem? hx)
              obtain ⟨g', o', cs, he, hg', -, -, hcell, ⟨vR, rfl, hR, -⟩, -, -⟩ := RowR.at_ (HV.out.kept5 (HKR.out.trans (HK2.out.trans HKJ.out))) j x hx
              cases he
              have d0 : wr.cell? ⟨g, o + j * 5, none⟩ = some (.int .i64 x.lvl) := by simpa using hcell 0 _ rfl
              have d1 := hcell 1 _ rfl
              have d2 := hcell 2 _ rfl
              have d3 := hcell 3 _ rfl
              have d4 := hcell 4 _ rfl
              by_cases hlv : x.lvl = 2
              · have HHN : Hid (hdN es (j + 1) = hdN es k + 1) := by
                  show hdN es j + _ = _
                  have e : lvlE es j = 2 := by unfold lvlE; rw [hx]; exact hlv
                  rw [if_neg (fun q => q.elim (fun q => by omega) (fun q => q e)), HHJ.out, Nat.add_zero]
                obtain ⟨lvl, text, refs⟩ := x
                obtain ⟨aR, cR, rfl, lR⟩ := hR.shape
                simp only at d0 d1 d2 d3 d4 hR ok1 ok2 ok3 hlv ⊢
                subst hlv
                have HPX := Lib.hid (HPA.out 2 text refs _ wr (tab_kept HTB.out (HKR.out.trans (HK2.out.trans HKJ.out))) hR ok1 ok2 ok3)
                clear hcell hx hR ok3
                go_wp2_with fail
                refine HPX.out.mono ?_
                rintro e w3 ⟨vL3, zs3, rfl, hl3, hn3, hk3⟩
                obtain ⟨aL3, cL3, rfl, lL3⟩ := hl3.form
                clear HPX d0 d1 d2 d3 d4
                have hka := kept_alloc w3 (.cells #[.int .i64 1, .int .i64 0, .string (bs []), .string (bs []), .string (bs []), .string (bs []), .string (bs []), .slice none 0 0, .slice none 0 0, .slice aL3 zs3.length cL3, .slice none 0 0] 38)
                have hkb := kept_alloc (w3.alloc (.cells #[.int .i64 1, .int .i64 0, .string (bs []), .string (bs []), .string (bs []), .string (bs []), .string (bs []), .slice none 0 0, .slice none 0 0, .slice aL3 zs3.length cL3, .slice none 0 0] 38)) (.cells #[.int .i64 9, .int .i64 0, .string (bs []), .string (bs []), .string (bs []), .string (bs []), .string (bs []), .slice none 0 0, .slice none 0 0, .slice none 0 0, .slice (some ⟨w3.heap.size, 0, none⟩) 1 1] 38)
                have hb4 := Blk.new w3 38 #[.int .i64 1, .int .i64 0, .string (bs []), .string (bs []), .string (bs []), .string (bs []), .string (bs []), .slice none 0 0, .slice none 0 0, .slice aL3 zs3.length cL3, .slice none 0 0]
                have hb5 := Blk.new (w3.alloc (.cells #[.int .i64 1, .int .i64 0, .string (bs []), .string (bs []), .string (bs []), .string (bs []), .string (bs []), .slice none 0 0, .slice none 0 0, .slice aL3 zs3.length cL3, .slice none 0 0] 38)) 38 #[.int .i64 9, .int .i64 0, .string (bs []), .string (bs []), .string (bs []), .string (bs []), .string (bs []), .slice none 0 0, .slice none 0 0, .slice none 0 0, .slice (some ⟨w3.heap.size, 0, none⟩) 1 1]
                rw [World.size_alloc] at hb5
                have hzr : wr.heap.size ≤ w3.heap.size := hk3.size
                have hDr : D + 1 ≤ wr.heap.size := by have h1 := HKJ.out.size; have h2 := HDS.out; omega
                have hkid : Bls (fun g => wr.heap.size ≤ g ∧ g ≤ w3.heap.size) 2 1 ((w3.alloc (.cells #[.int .i64 1, .int .i64 0, .string (bs []), .string (bs []), .string (bs []), .string (bs []), .string (bs []), .slice none 0 0, .slice none 0 0, .slice aL3 zs3.length cL3, .slice none 0 0] 38)).alloc (.cells #[.int .i64 9, .int .i64 0, .string (bs []), .string (bs []), .string (bs []), .string (bs []), .string (bs []), .slice none 0 0, .slice none 0 0, .slice none 0 0, .slice (some ⟨w3.heap.size, 0, none⟩) 1 1] 38)) (.slice (some ⟨w3.heap.size, 0, none⟩) 1 1) [bK 1 zs3 []] :=
                  Bls.sam (S := fun g => wr.heap.size ≤ g) (n := 1) (show Bls (fun g => wr.heap.size ≤ g) 2 1 (w3.alloc (.cells #[.int .i64 1, .int .i64 0, .string (bs []), .string (bs []), .string (bs []), .string (bs []), .string (bs []), .slice none 0 0, .slice none 0 0, .slice aL3 zs3.length cL3, .slice none 0 0] 38)) _ _ from OutG.row (S := fun g => wr.heap.size ≤ g) (bloK 2 0) (OutG.one_ (R := BloK 2 0) (k := 11) (A := fun g => wr.heap.size ≤ g) (base := wr.heap.size) (cs := [.int .i64 1, .int .i64 0, .string (bs []), .string (bs []), .string (bs []), .string (bs []), .string (bs []), .slice none 0 0, .slice none 0 0, .slice aL3 zs3.length cL3, .slice none 0 0]) (x := bK 1 zs3 []) hb4 rfl hzr (blkK (hl3.sam (Sam.kept hka) (fun g h q => ⟨q, by omega⟩)) (Bls.none_ _ _ _ _))) (fun g _ q => q) (fun g q => q)) (Sam.kept hkb) (fun g h q => ⟨q, by rw [World.size_alloc] at h; omega⟩)
                have HY := Lib.hid (show BloK 2 1 (fun g => D + 1 ≤ g ∧ (Value.slice an inns.length cn).ownBlock ≠ some g) ((w3.alloc (.cells #[.int .i64 1, .int .i64 0, .string (bs []), .string (bs []), .string (bs []), .string (bs []), .string (bs []), .slice none 0 0, .slice none 0 0, .slice aL3 zs3.length cL3, .slice none 0 0] 38)).alloc (.cells #[.int .i64 9, .int .i64 0, .string (bs []), .string (bs []), .string (bs []), .string (bs []), .string (bs []), .slice none 0 0, .slice none 0 0, .slice none 0 0, .slice (some ⟨w3.heap.size, 0, none⟩) 1 1] 38)) [.int .i64 9, .int .i64 0, .string (bs []), .string (bs []), .string (bs []), .string (bs []), .string (bs []), .slice none 0 0, .slice none 0 0, .slice none 0 0, .slice (some ⟨w3.heap.size, 0, none⟩) 1 1] (bK 9 [] [bK 1 zs3 []]) from blkK (Lns.none_ _ _ _) (hkid.mono (fun g _ q => ⟨by omega, fun r => by have := (HON.out.blk g r).2; omega⟩)))
                have HROW := Lib.hid hb5
                have HG5 := Lib.hid (HON.out.kept (bloK 2 1) (hk3.trans (hka.trans hkb)))
                have HK5 := Lib.hid (HKJ.out.trans (hk3.trans (hka.trans hkb)))
                have hb9 : D + 1 ≤ ((w3.alloc (.cells #[.int .i64 1, .int .i64 0, .string (bs []), .string (bs []), .string (bs []), .string (bs []), .string (bs []), .slice none 0 0, .slice none 0 0, .slice aL3 zs3.length cL3, .slice none 0 0] 38)).alloc (.cells #[.int .i64 9, .int .i64 0, .string (bs []), .string (bs []), .string (bs []), .string (bs []), .string (bs []), .slice none 0 0, .slice none 0 0, .slice none 0 0, .slice (some ⟨w3.heap.size, 0, none⟩) 1 1] 38)).heap.size := by have h1 := HK5.out.size; have h2 := HDS.out; omega
                have hnl : inns.length ≤ 1000000 := by have := HNL.out.1; omega
                have HIB3 : Hid (∀ y ∈ inns ++ [bK 9 [] [bK 1 zs3 []]], itemB y) := fun y hy => by
                  rcases List.mem_append.1 hy with q | q
                  · exact HIB.out y q
                  · rw [List.mem_singleton.1 q]; exact ⟨_, ⟨zs3, rfl⟩, rfl⟩
                have HNL3 : Hid ((inns ++ [bK 9 [] [bK 1 zs3 []]]).length ≤ j + 1 ∧ (listL (inns ++ [bK 9 [] [bK 1 zs3 []]])).length ≤ 2 * (j + 1 - k - 1)) := by
                  have h1 := HNL.out
                  have e : (listL [bK 9 [] [bK 1 zs3 []]]).length = 2 := rfl
                  refine ⟨by rw [List.length_append]; simp; omega, ?_⟩
                  rw [listL_app, List.length_append, e]; omega
                clear hka hkb hb4 hb5 hzr hDr hkid hl3 hk3 HIB HNL HKJ HON
                go_wp2_with (at_builtin; refine holdQ ?_)
                refine Lib.hid ?_
                refine wpList_append_out (bloK 2 1) rfl (.tmp 26) (.tmp 33) 23 rfl i0 _ 192 Tryz.underlying23 hi hz0 hz1 hz2 rfl (by omega) (by rfl) HG5.out (w3.heap.size + 1) _ (bK 9 [] [bK 1 zs3 []]) (by rfl) (fun j u hu => HROW.out.cell j u (by rw [← Array.getElem?_toList]; exact hu)) rfl HY.out (by unfold maxLen; omega) (by omega) hb9 _ rfl ?_
                intro g7 c7' w17 hout7 hgrow7 hat7 hlt7
                have HO7 := Lib.hid hout7
                have HK7 : Hid (Kept wc w17) := HK5.out.trans' ((Only.grown hgrow7).below HK5.out.size (fun i q => by have h1 := (HG5.out.blk i q.symm).1; have h2 := HDS.out; omega))
                clear hout7 hgrow7 hat7 hlt7 HY HROW HG5 HK5 hb9
                by_cases hcap : c - j = 1
                · go_wp2_with fail
                  go_roundw
                  case rel => exact ⟨j + 1, _, o + j * 5, by omega, by omega, by rw [show es.length - (j + 1) = es.length - j - 1 by omega, show c - (j + 1) = 0 by omega], fun q => by omega, HHN.out, HIB3.out, HNL3.out, HO7.out, HK7.out⟩
                  case measure => simp [lenV]; omega
                · go_wp2_with fail
                  go_roundw
                  case rel => exact ⟨j + 1, _, o + j * 5 + 5, by omega, by omega, by rw [show es.length - (j + 1) = es.length - j - 1 by omega, show c - (j + 1) = c - j - 1 by omega], fun q => by omega, HHN.out, HIB3.out, HNL3.out, HO7.out, HK7.out⟩
                  case measure => simp [lenV]; omega
              · have HEX : Hid (j < es.length → j = 0 ∨ lvlE es j ≠ 2) := fun _ => .inr (by unfold lvlE; rw [hx]; exact hlv)
                clear hcell hx hR ok1 ok2 ok3
                have HKOO := Lib.hid (HOK2.out.kept (bloK 2 2) HKJ.out)
                have HKOK := Lib.hid (HK2.out.trans HKJ.out)
                have hD1 : D + 1 ≤ wr.heap.size := by have h1 := HKJ.out.size; have h2 := HDS.out; omega
                by_cases hin : inns = []
                · subst hin
                  have HKID : Hid (Bls (fun g => wO.heap.size ≤ g) 2 3 wr (.slice (some ⟨D, 0, none⟩) 1 1) [bK 1 zs []]) := OutG.row (S := fun g => wO.heap.size ≤ g) (bloK 2 2) HKOO.out (fun g _ q => q) (fun g q => q)
                  have HKO := Lib.hid HKOK.out
                  clear HKOO HKOK HON
                  have hka := kept_alloc wr (.cells #[.int .i64 9, .int .i64 0, .string (bs []), .string (bs []), .string (bs []), .string (bs []), .string (bs []), .slice none 0 0, .slice none 0 0, .slice none 0 0, .slice (some ⟨D, 0, none⟩) 1 1] 38)
                  have HG8 := Lib.hid ((HOI.out.kept (bloK 2 3) HKO.out).kept (bloK 2 3) hka)
                  have HROW := Lib.hid (Blk.new wr 38 #[.int .i64 9, .int .i64 0, .string (bs []), .string (bs []), .string (bs []), .string (bs []), .string (bs []), .slice none 0 0, .slice none 0 0, .slice none 0 0, .slice (some ⟨D, 0, none⟩) 1 1])
                  have HY := Lib.hid (show BloK 2 3 (fun g => w.heap.size ≤ g ∧ (Value.slice ai its.length ci).ownBlock ≠ some g) (wr.alloc (.cells #[.int .i64 9, .int .i64 0, .string (bs []), .string (bs []), .string (bs []), .string (bs []), .string (bs []), .slice none 0 0, .slice none 0 0, .slice none 0 0, .slice (some ⟨D, 0, none⟩) 1 1] 38)) [.int .i64 9, .int .i64 0, .string (bs []), .string (bs []), .string (bs []), .string (bs []), .string (bs []), .slice none 0 0, .slice none 0 0, .slice none 0 0, .slice (some ⟨D, 0, none⟩) 1 1] (bK 9 [] [bK 1 zs []]) from (bloK 2 3).sam (blkK (Lns.none_ _ _ _) HKID.out) (Sam.kept hka) (fun g _ q => ⟨by omega, fun r => by have := (HOI.out.blk g r).2; omega⟩))
                  have HK8 := Lib.hid ((HKR.out.trans HKO.out).trans hka)
                  have hb8 : w.heap.size ≤ (wr.alloc (.cells #[.int .i64 9, .int .i64 0, .string (bs []), .string (bs []), .string (bs []), .string (bs []), .string (bs []), .slice none 0 0, .slice none 0 0, .slice none 0 0, .slice (some ⟨D, 0, none⟩) 1 1] 38)).heap.size := HK8.out.size
                  have hil : its.length ≤ 1000000 := by have h1 := hdN_le es k; have h2 := HIL.out; omega
                  have HIL8 : Hid ((its ++ [bK 9 [] [bK 1 zs []]]).length = hdN es j) := by show _ = _; rw [List.length_append, HIL.out, HHJ.out]; rfl
                  have HIW8 : Hid ((listL (its ++ [bK 9 [] [bK 1 zs []]])).length ≤ 3 * j) := by
                    show _ ≤ _
                    have h1 := HIW.out
                    have h2 := HNL.out.2
                    have e : (listL [bK 9 [] [bK 1 zs []]]).length = 2 := rfl
                    rw [listL_app, List.length_append, e]; omega
                  have HIG8 : Hid (∀ z ∈ its ++ [bK 9 [] [bK 1 zs []]], groupB z) := fun z hz => by
                    rcases List.mem_append.1 hz with q | q
                    · exact HIG.out z q
                    · rw [List.mem_singleton.1 q]; exact ⟨bK 1 zs [], _, ⟨zs, rfl⟩, .inl rfl, rfl⟩
                  clear hka HKID HKO HKJ
                  go_wp2_with (at_builtin; refine holdQ ?_)
                  refine Lib.hid ?_
                  refine wpList_append_out (bloK 2 3) rfl (.tmp 45) (.tmp 48) 23 rfl i0 _ 192 Tryz.underlying23 hi hz0 hz1 hz2 rfl (by omega) (by rfl) HG8.out wr.heap.size _ (bK 9 [] [bK 1 zs []]) (by rfl) (fun j u hu => HROW.out.cell j u (by rw [← Array.getElem?_toList]; exact hu)) rfl HY.out (by unfold maxLen; omega) (by omega) hb8 _ rfl ?_
                  intro g9 c9' w19 hout9 hgrow9 hat9 hlt9
                  have HO9 := Lib.hid hout9
                  have HK9 : Hid (Kept w w19) := HK8.out.trans' ((Only.grown hgrow9).below HK8.out.size (fun i q => (HG8.out.blk i q.symm).1))
                  clear hout9 hgrow9 hat9 hlt9 HY HROW HG8 HK8 hb8
                  go_wp2_with fail
                  go_roundw
                  case rel => exact ⟨j, _, _, hj, rfl, by first | exact ho2 | exact fun _ => rfl, HEX.out, HIL8.out, HIG8.out, HIW8.out, HO9.out, HK9.out⟩
                  case measure => simp [lenV]; omega
                · have hip : 0 < inns.length := List.length_pos_iff.2 hin
                  have hinn : Bls (fun g => D + 1 ≤ g) 2 2 wr (.slice an inns.length cn) inns := OutG.row (S := fun g => D + 1 ≤ g) (bloK 2 1) HON.out (fun g _ q => q) (fun g q => q)
                  have hka := kept_alloc wr (.cells #[.int .i64 7, .int .i64 0, .string (bs []), .string (bs []), .string (bs []), .string (bs []), .string (bs []), .slice none 0 0, .slice none 0 0, .slice none 0 0, .slice an inns.length cn] 38)
                  have HG6 := Lib.hid (HKOO.out.kept (bloK 2 2) hka)
                  have HROW6 := Lib.hid (Blk.new wr 38 #[.int .i64 7, .int .i64 0, .string (bs []), .string (bs []), .string (bs []), .string (bs []), .string (bs []), .slice none 0 0, .slice none 0 0, .slice none 0 0, .slice an inns.length cn])
                  have HY6 := Lib.hid (show BloK 2 2 (fun g => wO.heap.size ≤ g ∧ (Value.slice (some ⟨D, 0, none⟩) 1 1).ownBlock ≠ some g) (wr.alloc (.cells #[.int .i64 7, .int .i64 0, .string (bs []), .string (bs []), .string (bs []), .string (bs []), .string (bs []), .slice none 0 0, .slice none 0 0, .slice none 0 0, .slice an inns.length cn] 38)) [.int .i64 7, .int .i64 0, .string (bs []), .string (bs []), .string (bs []), .string (bs []), .string (bs []), .slice none 0 0, .slice none 0 0, .slice none 0 0, .slice an inns.length cn] (bK 7 [] inns) from (bloK 2 2).sam (blkK (Lns.none_ _ _ _) hinn) (Sam.kept hka) (fun g _ q => ⟨by omega, fun r => by have e : D = g := (by simpa [Value.ownBlock] using r); omega⟩))
                  have HK6 := Lib.hid (HKOK.out.trans hka)
                  have hb6 : wO.heap.size ≤ (wr.alloc (.cells #[.int .i64 7, .int .i64 0, .string (bs []), .string (bs []), .string (bs []), .string (bs []), .string (bs []), .slice none 0 0, .slice none 0 0, .slice none 0 0, .slice an inns.length cn] 38)).heap.size := HK6.out.size
                  clear hka hinn HKOO HKOK
                  go_wp2_with (at_builtin; refine holdQ ?_)
                  refine Lib.hid ?_
                  refine wpList_append_out (bloK 2 2) rfl (.tmp 40) (.tmp 43) 23 rfl i0 _ 192 Tryz.underlying23 hi hz0 hz1 hz2 rfl (by omega) (by rfl) HG6.out wr.heap.size _ (bK 7 [] inns) (by rfl) (fun j u hu => HROW6.out.cell j u (by rw [← Array.getElem?_toList]; exact hu)) rfl HY6.out (by unfold maxLen; simp) (by simp) hb6 _ rfl ?_
                  intro g6 c6' w6 hout6 hgrow6 hat6 hlt6
                  have HKID : Hid (Bls (fun g => wO.heap.size ≤ g) 2 3 w6 (.slice (some ⟨g6, 0, none⟩) ([bK 1 zs []].length + 1) c6') ([bK 1 zs []] ++ [bK 7 [] inns])) := OutG.row (S := fun g => wO.heap.size ≤ g) (bloK 2 2) hout6 (fun g _ q => q) (fun g q => q)
                  have HKO : Hid (Kept wO w6) := HK6.out.trans' ((Only.grown hgrow6).below HK6.out.size (fun i q => (HG6.out.blk i q.symm).1))
                  clear hout6 hgrow6 hat6 hlt6 HY6 HROW6 HG6 HK6 hb6
                  have hka := kept_alloc w6 (.cells #[.int .i64 9, .int .i64 0, .string (bs []), .string (bs []), .string (bs []), .string (bs []), .string (bs []), .slice none 0 0, .slice none 0 0, .slice none 0 0, .slice (some ⟨g6, 0, none⟩) ([bK 1 zs []].length + 1) c6'] 38)
                  have HG8 := Lib.hid ((HOI.out.kept (bloK 2 3) HKO.out).kept (bloK 2 3) hka)
                  have HROW := Lib.hid (Blk.new w6 38 #[.int .i64 9, .int .i64 0, .string (bs []), .string (bs []), .string (bs []), .string (bs []), .string (bs []), .slice none 0 0, .slice none 0 0, .slice none 0 0, .slice (some ⟨g6, 0, none⟩) ([bK 1 zs []].length + 1) c6'])
                  have HY := Lib.hid (show BloK 2 3 (fun g => w.heap.size ≤ g ∧ (Value.slice ai its.length ci).ownBlock ≠ some g) (w6.alloc (.cells #[.int .i64 9, .int .i64 0, .string (bs []), .string (bs []), .string (bs []), .string (bs []), .string (bs []), .slice none 0 0, .slice none 0 0, .slice none 0 0, .slice (some ⟨g6, 0, none⟩) ([bK 1 zs []].length + 1) c6'] 38)) [.int .i64 9, .int .i64 0, .string (bs []), .string (bs []), .string (bs []), .string (bs []), .string (bs []), .slice none 0 0, .slice none 0 0, .slice none 0 0, .slice (some ⟨g6, 0, none⟩) ([bK 1 zs []].length + 1) c6'] (bK 9 [] ([bK 1 zs []] ++ [bK 7 [] inns])) from (bloK 2 3).sam (blkK (Lns.none_ _ _ _) HKID.out) (Sam.kept hka) (fun g _ q => ⟨by omega, fun r => by have := (HOI.out.blk g r).2; omega⟩))
                  have HK8 := Lib.hid ((HKR.out.trans HKO.out).trans hka)
                  have hb8 : w.heap.size ≤ (w6.alloc (.cells #[.int .i64 9, .int .i64 0, .string (bs []), .string (bs []), .string (bs []), .string (bs []), .string (bs []), .slice none 0 0, .slice none 0 0, .slice none 0 0, .slice (some ⟨g6, 0, none⟩) ([bK 1 zs []].length + 1) c6'] 38)).heap.size := HK8.out.size
                  have hil : its.length ≤ 1000000 := by have h1 := hdN_le es k; have h2 := HIL.out; omega
                  have HIL8 : Hid ((its ++ [bK 9 [] ([bK 1 zs []] ++ [bK 7 [] inns])]).length = hdN es j) := by show _ = _; rw [List.length_append, HIL.out, HHJ.out]; rfl
                  have HIW8 : Hid ((listL (its ++ [bK 9 [] ([bK 1 zs []] ++ [bK 7 [] inns])])).length ≤ 3 * j) := by
                    show _ ≤ _
                    have h1 := HIW.out
                    have h2 := HNL.out.2
                    have e : (listL [bK 9 [] ([bK 1 zs []] ++ [bK 7 [] inns])]).length = 3 + (listL inns).length := by
                      show (bK 9 [] _ :: (bK 1 zs [] :: (bK 7 [] inns :: (listL inns ++ [])) ) ++ []).length = _
                      simp; omega
                    rw [listL_app, List.length_append, e]; omega
                  have HIG8 : Hid (∀ z ∈ its ++ [bK 9 [] ([bK 1 zs []] ++ [bK 7 [] inns])], groupB z) := fun z hz => by
                    rcases List.mem_append.1 hz with q | q
                    · exact HIG.out z q
                    · rw [List.mem_singleton.1 q]; exact ⟨bK 1 zs [], _, ⟨zs, rfl⟩, .inr ⟨inns, rfl, HIB.out⟩, rfl⟩
                  clear hka HKID HKO HKJ
                  go_wp2_with (at_builtin; refine holdQ ?_)
                  refine Lib.hid ?_
                  refine wpList_append_out (bloK 2 3) rfl (.tmp 45) (.tmp 48) 23 rfl i0 _ 192 Tryz.underlying23 hi hz0 hz1 hz2 rfl (by omega) (by rfl) HG8.out w6.heap.size _ (bK 9 [] ([bK 1 zs []] ++ [bK 7 [] inns])) (by rfl) (fun j u hu => HROW.out.cell j u (by rw [← Array.getElem?_toList]; exact hu)) rfl HY.out (by unfold maxLen; omega) (by omega) hb8 _ rfl ?_
                  intro g9 c9' w19 hout9 hgrow9 hat9 hlt9
                  have HO9 := Lib.hid hout9
                  have HK9 : Hid (Kept w w19) := HK8.out.trans' ((Only.grown hgrow9).below HK8.out.size (fun i q => (HG8.out.blk i q.symm).1))
                  clear hout9 hgrow9 hat9 hlt9 HY HROW HG8 HK8 hb8
                  go_wp2_with fail
                  go_roundw
                  case rel => exact ⟨j, _, _, hj, rfl, by first | exact ho2 | exact fun _ => rfl, HEX.out, HIL8.out, HIG8.out, HIW8.out, HO9.out, HK9.out⟩
                  case measure => simp [lenV]; omega
            · have HEX : Hid (j < es.length → j = 0 ∨ lvlE es j ≠ 2) := fun q => absurd q hlt2
              have HKOO := Lib.hid (HOK2.out.kept (bloK 2 2) HKJ.out)
              have HKOK := Lib.hid (HK2.out.trans HKJ.out)
              have hD1 : D + 1 ≤ wr.heap.size := by have h1 := HKJ.out.size; have h2 := HDS.out; omega
              by_cases hin : inns = []
              · subst hin
                have HKID : Hid (Bls (fun g => wO.heap.size ≤ g) 2 3 wr (.slice (some ⟨D, 0, none⟩) 1 1) [bK 1 zs []]) := OutG.row (S := fun g => wO.heap.size ≤ g) (bloK 2 2) HKOO.out (fun g _ q => q) (fun g q => q)
                have HKO := Lib.hid HKOK.out
                clear HKOO HKOK HON
                have hka := kept_alloc wr (.cells #[.int .i64 9, .int .i64 0, .string (bs []), .string (bs []), .string (bs []), .string (bs []), .string (bs []), .slice none 0 0, .slice none 0 0, .slice none 0 0, .slice (some ⟨D, 0, none⟩) 1 1] 38)
                have HG8 := Lib.hid ((HOI.out.kept (bloK 2 3) HKO.out).kept (bloK 2 3) hka)
                have HROW := Lib.hid (Blk.new wr 38 #[.int .i64 9, .int .i64 0, .string (bs []), .string (bs []), .string (bs []), .string (bs []), .string (bs []), .slice none 0 0, .slice none 0 0, .slice none 0 0, .slice (some ⟨D, 0, none⟩) 1 1])
                have HY := Lib.hid (show BloK 2 3 (fun g => w.heap.size ≤ g ∧ (Value.slice ai its.length ci).ownBlock ≠ some g) (wr.alloc (.cells #[.int .i64 9, .int .i64 0, .string (bs []), .string (bs []), .string (bs []), .string (bs []), .string (bs []), .slice none 0 0, .slice none 0 0, .slice none 0 0, .slice (some ⟨D, 0, none⟩) 1 1] 38)) [.int .i64 9, .int .i64 0, .string (bs []), .string (bs []), .string (bs []), .string (bs []), .string (bs []), .slice none 0 0, .slice none 0 0, .slice none 0 0, .slice (some ⟨D, 0, none⟩) 1 1] (bK 9 [] [bK 1 zs []]) from (bloK 2 3).sam (blkK (Lns.none_ _ _ _) HKID.out) (Sam.kept hka) (fun g _ q => ⟨by omega, fun r => by have := (HOI.out.blk g r).2; omega⟩))
                have HK8 := Lib.hid ((HKR.out.trans HKO.out).trans hka)
                have hb8 : w.heap.size ≤ (wr.alloc (.cells #[.int .i64 9, .int .i64 0, .string (bs []), .string (bs []), .string (bs []), .string (bs []), .string (bs []), .slice none 0 0, .slice none 0 0, .slice none 0 0, .slice (some ⟨D, 0, none⟩) 1 1] 38)).heap.size := HK8.out.size
                have hil : its.length ≤ 1000000 := by have h1 := hdN_le es k; have h2 := HIL.out; omega
                have HIL8 : Hid ((its ++ [bK 9 [] [bK 1 zs []]]).length = hdN es j) := by show _ = _; rw [List.length_append, HIL.out, HHJ.out]; rfl
                have HIW8 : Hid ((listL (its ++ [bK 9 [] [bK 1 zs []]])).length ≤ 3 * j) := by
                  show _ ≤ _
                  have h1 := HIW.out
                  have h2 := HNL.out.2
                  have e : (listL [bK 9 [] [bK 1 zs []]]).length = 2 := rfl
                  rw [listL_app, List.length_append, e]; omega
                have HIG8 : Hid (∀ z ∈ its ++ [bK 9 [] [bK 1 zs []]], groupB z) := fun z hz => by
                  rcases List.mem_append.1 hz with q | q
                  · exact HIG.out z q
                  · rw [List.mem_singleton.1 q]; exact ⟨bK 1 zs [], _, ⟨zs, rfl⟩, .inl rfl, rfl⟩
                clear hka HKID HKO HKJ
                go_wp2_with (at_builtin; refine holdQ ?_)
                refine Lib.hid ?_
                refine wpList_append_out (bloK 2 3) rfl (.tmp 45) (.tmp 48) 23 rfl i0 _ 192 Tryz.underlying23 hi hz0 hz1 hz2 rfl (by omega) (by rfl) HG8.out wr.heap.size _ (bK 9 [] [bK 1 zs []]) (by rfl) (fun j u hu => HROW.out.cell j u (by rw [← Array.getElem?_toList]; exact hu)) rfl HY.out (by unfold maxLen; omega) (by omega) hb8 _ rfl ?_
                intro g9 c9' w19 hout9 hgrow9 hat9 hlt9
                have HO9 := Lib.hid hout9
                have HK9 : Hid (Kept w w19) := HK8.out.trans' ((Only.grown hgrow9).below HK8.out.size (fun i q => (HG8.out.blk i q.symm).1))
                clear hout9 hgrow9 hat9 hlt9 HY HROW HG8 HK8 hb8
                go_wp2_with fail
                go_roundw
                case rel => exact ⟨j, _, _, hj, rfl, by first | exact ho2 | exact fun _ => rfl, HEX.out, HIL8.out, HIG8.out, HIW8.out, HO9.out, HK9.out⟩
                case measure => simp [lenV]; omega
              · have hip : 0 < inns.length := List.length_pos_iff.2 hin
                have hinn : Bls (fun g => D + 1 ≤ g) 2 2 wr (.slice an inns.length cn) inns := OutG.row (S := fun g => D + 1 ≤ g) (bloK 2 1) HON.out (fun g _ q => q) (fun g q => q)
                have hka := kept_alloc wr (.cells #[.int .i64 7, .int .i64 0, .string (bs []), .string (bs []), .string (bs []), .string (bs []), .string (bs []), .slice none 0 0, .slice none 0 0, .slice none 0 0, .slice an inns.length cn] 38)
                have HG6 := Lib.hid (HKOO.out.kept (bloK 2 2) hka)
                have HROW6 := Lib.hid (Blk.new wr 38 #[.int .i64 7, .int .i64 0, .string (bs []), .string (bs []), .string (bs []), .string (bs []), .string (bs []), .slice none 0 0, .slice none 0 0, .slice none 0 0, .slice an inns.length cn])
                have HY6 := Lib.hid (show BloK 2 2 (fun g => wO.heap.size ≤ g ∧ (Value.slice (some ⟨D, 0, none⟩) 1 1).ownBlock ≠ some g) (wr.alloc (.cells #[.int .i64 7, .int .i64 0, .string (bs []), .string (bs []), .string (bs []), .string (bs []), .string (bs []), .slice none 0 0, .slice none 0 0, .slice none 0 0, .slice an inns.length cn] 38)) [.int .i64 7, .int .i64 0, .string (bs []), .string (bs []), .string (bs []), .string (bs []), .string (bs []), .slice none 0 0, .slice none 0 0, .slice none 0 0, .slice an inns.length cn] (bK 7 [] inns) from (bloK 2 2).sam (blkK (Lns.none_ _ _ _) hinn) (Sam.kept hka) (fun g _ q => ⟨by omega, fun r => by have e : D = g := (by simpa [Value.ownBlock] using r); omega⟩))
                have HK6 := Lib.hid (HKOK.out.trans hka)
                have hb6 : wO.heap.size ≤ (wr.alloc (.cells #[.int .i64 7, .int .i64 0, .string (bs []), .string (bs []), .string (bs []), .string (bs []), .string (bs []), .slice none 0 0, .slice none 0 0, .slice none 0 0, .slice an inns.length cn] 38)).heap.size := HK6.out.size
                clear hka hinn HKOO HKOK
                go_wp2_with (at_builtin; refine holdQ ?_)
                refine Lib.hid ?_
                refine wpList_append_out (bloK 2 2) rfl (.tmp 40) (.tmp 43) 23 rfl i0 _ 192 Tryz.underlying23 hi hz0 hz1 hz2 rfl (by omega) (by rfl) HG6.out wr.heap.size _ (bK 7 [] inns) (by rfl) (fun j u hu => HROW6.out.cell j u (by rw [← Array.getElem?_toList]; exact hu)) rfl HY6.out (by unfold maxLen; simp) (by simp) hb6 _ rfl ?_
                intro g6 c6' w6 hout6 hgrow6 hat6 hlt6
                have HKID : Hid (Bls (fun g => wO.heap.size ≤ g) 2 3 w6 (.slice (some ⟨g6, 0, none⟩) ([bK 1 zs []].length + 1) c6') ([bK 1 zs []] ++ [bK 7 [] inns])) := OutG.row (S := fun g => wO.heap.size ≤ g) (bloK 2 2) hout6 (fun g _ q => q) (fun g q => q)
                have HKO : Hid (Kept wO w6) := HK6.out.trans' ((Only.grown hgrow6).below HK6.out.size (fun i q => (HG6.out.blk i q.symm).1))
                clear hout6 hgrow6 hat6 hlt6 HY6 HROW6 HG6 HK6 hb6
                have hka := kept_alloc w6 (.cells #[.int .i64 9, .int .i64 0, .string (bs []), .string (bs []), .string (bs []), .string (bs []), .string (bs []), .slice none 0 0, .slice none 0 0, .slice none 0 0, .slice (some ⟨g6, 0, none⟩) ([bK 1 zs []].length + 1) c6'] 38)
                have HG8 := Lib.hid ((HOI.out.kept (bloK 2 3) HKO.out).kept (bloK 2 3) hka)
                have HROW := Lib.hid (Blk.new w6 38 #[.int .i64 9, .int .i64 0, .string (bs []), .string (bs []), .string (bs []), .string (bs []), .string (bs []), .slice none 0 0, .slice none 0 0, .slice none 0 0, .slice (some ⟨g6, 0, none⟩) ([bK 1 zs []].length + 1) c6'])
                have HY := Lib.hid (show BloK 2 3 (fun g => w.heap.size ≤ g ∧ (Value.slice ai its.length ci).ownBlock ≠ some g) (w6.alloc (.cells #[.int .i64 9, .int .i64 0, .string (bs []), .string (bs []), .string (bs []), .string (bs []), .string (bs []), .slice none 0 0, .slice none 0 0, .slice none 0 0, .slice (some ⟨g6, 0, none⟩) ([bK 1 zs []].length + 1) c6'] 38)) [.int .i64 9, .int .i64 0, .string (bs []), .string (bs []), .string (bs []), .string (bs []), .string (bs []), .slice none 0 0, .slice none 0 0, .slice none 0 0, .slice (some ⟨g6, 0, none⟩) ([bK 1 zs []].length + 1) c6'] (bK 9 [] ([bK 1 zs []] ++ [bK 7 [] inns])) from (bloK 2 3).sam (blkK (Lns.none_ _ _ _) HKID.out) (Sam.kept hka) (fun g _ q => ⟨by omega, fun r => by have := (HOI.out.blk g r).2; omega⟩))
                have HK8 := Lib.hid ((HKR.out.trans HKO.out).trans hka)
                have hb8 : w.heap.size ≤ (w6.alloc (.cells #[.int .i64 9, .int .i64 0, .string (bs []), .string (bs []), .string (bs []), .string (bs []), .string (bs []), .slice none 0 0, .slice none 0 0, .slice none 0 0, .slice (some ⟨g6, 0, none⟩) ([bK 1 zs []].length + 1) c6'] 38)).heap.size := HK8.out.size
                have hil : its.length ≤ 1000000 := by have h1 := hdN_le es k; have h2 := HIL.out; omega
                have HIL8 : Hid ((its ++ [bK 9 [] ([bK 1 zs []] ++ [bK 7 [] inns])]).length = hdN es j) := by show _ = _; rw [List.length_append, HIL.out, HHJ.out]; rfl
                have HIW8 : Hid ((listL (its ++ [bK 9 [] ([bK 1 zs []] ++ [bK 7 [] inns])])).length ≤ 3 * j) := by
                  show _ ≤ _
                  have h1 := HIW.out
                  have h2 := HNL.out.2
                  have e : (listL [bK 9 [] ([bK 1 zs []] ++ [bK 7 [] inns])]).length = 3 + (listL inns).length := by
                    show (bK 9 [] _ :: (bK 1 zs [] :: (bK 7 [] inns :: (listL inns ++ [])) ) ++ []).length = _
                    simp; omega
                  rw [listL_app, List.length_append, e]; omega
                have HIG8 : Hid (∀ z ∈ its ++ [bK 9 [] ([bK 1 zs []] ++ [bK 7 [] inns])], groupB z) := fun z hz => by
                  rcases List.mem_append.1 hz with q | q
                  · exact HIG.out z q
                  · rw [List.mem_singleton.1 q]; exact ⟨bK 1 zs [], _, ⟨zs, rfl⟩, .inr ⟨inns, rfl, HIB.out⟩, rfl⟩
                clear hka HKID HKO HKJ
                go_wp2_with (at_builtin; refine holdQ ?_)
                refine Lib.hid ?_
                refine wpList_append_out (bloK 2 3) rfl (.tmp 45) (.tmp 48) 23 rfl i0 _ 192 Tryz.underlying23 hi hz0 hz1 hz2 rfl (by omega) (by rfl) HG8.out w6.heap.size _ (bK 9 [] ([bK 1 zs []] ++ [bK 7 [] inns])) (by rfl) (fun j u hu => HROW.out.cell j u (by rw [← Array.getElem?_toList]; exact hu)) rfl HY.out (by unfold maxLen; omega) (by omega) hb8 _ rfl ?_
                intro g9 c9' w19 hout9 hgrow9 hat9 hlt9
                have HO9 := Lib.hid hout9
                have HK9 : Hid (Kept w w19) := HK8.out.trans' ((Only.grown hgrow9).below HK8.out.size (fun i q => (HG8.out.blk i q.symm).1))
                clear hout9 hgrow9 hat9 hlt9 HY HROW HG8 HK8 hb8
                go_wp2_with fail
                go_roundw
                case rel => exact ⟨j, _, _, hj, rfl, by first | exact ho2 | exact fun _ => rfl, HEX.out, HIL8.out, HIG8.out, HIW8.out, HO9.out, HK9.out⟩
                case measure => simp [lenV]; omega
      · obtain rfl : k = es.length := by omega
        obtain ⟨ai, ci, rfl, hci, hmi⟩ := HOI.out.form
        have hpl : 0 < its.length := by rw [HIL.out]; exact hdN_pos es hpos
        have hil : its.length ≤ 1000000 := by have h1 := hdN_le es es.length; have h2 := HIL.out; omega
        have hb := Blk.new wr 38 #[.int .i64 7, .int .i64 0, .string (bs []), .string (bs []), .string (bs []), .string (bs []), .string (bs []), .slice none 0 0, .slice none 0 0, .slice none 0 0, .slice ai its.length ci]
        have hka := kept_alloc wr (.cells #[.int .i64 7, .int .i64 0, .string (bs []), .string (bs []), .string (bs []), .string (bs []), .string (bs []), .slice none 0 0, .slice none 0 0, .slice none 0 0, .slice ai its.length ci] 38)
        have HF := Lib.hid (HFIN.out (.slice (some ⟨wr.heap.size, 0, none⟩) 1 1) its (wr.alloc (.cells #[.int .i64 7, .int .i64 0, .string (bs []), .string (bs []), .string (bs []), .string (bs []), .string (bs []), .slice none 0 0, .slice none 0 0, .slice none 0 0, .slice ai its.length ci] 38)) (OutG.one_ (cs := [.int .i64 7, .int .i64 0, .string (bs []), .string (bs []), .string (bs []), .string (bs []), .string (bs []), .slice none 0 0, .slice none 0 0, .slice none 0 0, .slice ai its.length ci]) hb rfl HKR.out.size (blkK (Lns.none_ _ _ _) ((show Bls (fun g => w.heap.size ≤ g) 2 4 wr _ _ from OutG.row (S := fun g => w.heap.size ≤ g) (bloK 2 3) HOI.out (fun g _ q => q) (fun g q => q)).sam (Sam.kept hka) (fun g h q => ⟨q, by omega⟩)))) HIL.out HIG.out HIW.out (HKR.out.trans hka))
        clear hb hka HOI HKR HIG HFIN
        go_wp2_with fail
        (try go_ret)
        exact HF.out
end Go.Proofs.YtnbhpmleboildaaGreatDoor

/- The entries of an index: how many, how long. No condition. -/
set_option linter.all false
namespace Go.Proofs.YtnbhpmleboildaaGreatDoor
open Go.RowKit

theorem mainStep_refs (st : OfS) (m : Bs) : (mainStep st m).refs = st.refs := by unfold mainStep; split <;> rfl
theorem subStep_refs (st : OfS) (m s : Bs) : (subStep st m s).refs = st.refs := by
  unfold subStep
  split
  · rfl
  · split <;> rfl
theorem ofAll_refs (P : Bs → Prop) (ds : List Inl) (h : ∀ x ∈ ds, P x.id) : ∀ t, ∀ r ∈ (ofAll ds).refs t, P r := by
  have key : ∀ (ds : List Inl) (st : OfS), (∀ x ∈ ds, P x.id) → (∀ t, ∀ r ∈ st.refs t, P r) → ∀ t, ∀ r ∈ (ds.foldl ofStep st).refs t, P r := by
    intro ds
    induction ds with
    | nil => intro st _ h; exact h
    | cons x ds ih =>
      intro st hx h
      refine ih _ (fun y hy => hx y (List.mem_cons_of_mem _ hy)) ?_
      unfold ofStep
      cases okM x with
      | false => exact h
      | true =>
        intro t r hr
        have hr' : r ∈ (subStep (mainStep (refStep st (mainI x, subI x) x.id) (mainI x)) (mainI x) (subI x)).refs t := hr
        rw [subStep_refs, mainStep_refs] at hr'
        unfold refStep at hr'
        by_cases q : x.id = []
        · rw [if_pos q] at hr'; exact h t r hr'
        · rw [if_neg q] at hr'
          have hr2 : r ∈ if t = (mainI x, subI x) then st.refs (mainI x, subI x) ++ [x.id] else st.refs t := hr'
          split at hr2
          · rcases List.mem_append.1 hr2 with a | a
            · exact h _ r a
            · rw [List.mem_singleton.1 a]; exact hx x (List.mem_cons_self ..)
          · exact h t r hr2
  exact key ds ofS0 h (fun t r hr => (List.not_mem_nil hr).elim)
theorem entsIx_mem {c : ColT} {st : OfS} {e : Ent} (h : e ∈ entsIx c st) : ∃ t, e.refs = st.refs t ∧ (e.text ∈ st.mains ∨ ∃ m, e.text ∈ st.subs m) := by
  unfold entsIx at h
  obtain ⟨m, hm, he⟩ := List.mem_flatMap.1 h
  unfold mainE at he
  rcases List.mem_cons.1 he with rfl | q
  · exact ⟨(m, []), rfl, .inl ((sortT_perm c st.mains).mem_iff.1 hm)⟩
  · obtain ⟨s, hs, rfl⟩ := List.mem_map.1 q
    exact ⟨(m, s), rfl, .inr ⟨m, (sortT_perm c (st.subs m)).mem_iff.1 hs⟩⟩
theorem entsIx_len (c : ColT) (st : OfS) (n : Nat) (h1 : st.mains.length ≤ n) (h2 : ∀ m, (st.subs m).length ≤ n) : (entsIx c st).length ≤ n * (n + 1) := by
  have key : ∀ l : List Bs, (l.flatMap (mainE c st)).length ≤ l.length * (n + 1) := by
    intro l
    induction l with
    | nil => simp
    | cons x l ih =>
      have h3 := sortT_len c (st.subs x)
      have h4 := h2 x
      have h5 : (mainE c st x).length ≤ n + 1 := by unfold mainE; rw [List.length_cons, List.length_map]; omega
      rw [List.flatMap_cons, List.length_append, List.length_cons, Nat.add_mul, Nat.one_mul]; omega
  have h3 := key (sortT c st.mains)
  rw [sortT_len] at h3
  exact Nat.le_trans h3 (Nat.mul_le_mul_right _ h1)
theorem ents_okE (c : ColT) (ds : List Inl) (hn : ds.length ≤ 500) (hs : okS ds) (hid : ∀ x ∈ ds, x.id.length ≤ 900000) : okE (entsIx c (ofAll ds)) ∧ (entsIx c (ofAll ds)).length ≤ 1000000 := by
  have hl := ofAll_len ds
  have hb := ofAll_short 100000 ds hs
  refine ⟨fun e he => ?_, ?_⟩
  · obtain ⟨t, h1, h2⟩ := entsIx_mem he
    refine ⟨?_, by rw [h1]; exact Nat.le_trans (hl.refs t) (by omega), fun r hr => ?_⟩
    · rcases h2 with q | ⟨m, q⟩
      · exact Nat.le_trans (hb.1 _ q) (by decide)
      · exact Nat.le_trans (hb.2 m _ q) (by decide)
    · rw [h1] at hr
      exact ofAll_refs (fun b => b.length ≤ 900000) ds hid t r hr
  · refine Nat.le_trans (entsIx_len c (ofAll ds) 500 (Nat.le_trans hl.mains hn) (fun m => Nat.le_trans (hl.subs m) hn)) (by decide)
end Go.Proofs.YtnbhpmleboildaaGreatDoor

/- A whole list is appended to a row that a call owns. Conditions: lengths. -/
set_option linter.all false
namespace Go.Proofs.YtnbhpmleboildaaGreatDoor
open Go.RowKit

section
variable {α : Type} {R : (Nat → Prop) → World → List Value → α → Prop} {k : Nat} {A : Nat → Prop} {base : Nat} {e : TypeId} {w : World} {v : Value} {xs : List α}
theorem wpList_append_row {P : Program} (hR : ReadK R) {ops : Array Oper} {rest : List Oper} {o : Oper} {a : Act} {Q : Exit → Act → World → Prop} (hgd : o.guard = none) (s x : Operand) (t : TypeId)
    (ho : o.op = .call { callee := .builtin .append, args := #[s, x], argTypes := #[t, t] })
    (i : TypeInfo) (z : Value) (bytes : Nat) (ht : P.underlying t = some (.slice e)) (hi : P.info? e = some i) (hz : i.zero = some z) (hsize : i.size = k) (hby : i.bytes = bytes) (hzs : z.cells.size = k) (hsz : 0 < k)
    {S : Nat → Prop} {ys : List α} (hs : a.eval s = v) (hown : OutG R k A base e w v xs) (v2 : Value) (hx : a.eval x = v2) (hys : RowR S k (R S w) w v2 ys) (hS : ∀ g, g < w.heap.size → S g → A g ∧ v.ownBlock ≠ some g)
    (h63 : xs.length + ys.length ≤ maxLen) (hbytes : (xs.length + ys.length) * bytes ≤ 140737488355328) (hbase : base ≤ w.heap.size)
    (h : ∀ v' w', OutG R k A base e w' v' (xs ++ ys) → w.grownBy w' v.ownBlock → wpList P ops Q rest (a.put o.dst v') w') : wpList P ops Q (o :: rest) a w := by
  obtain ⟨css, h1, h2, ho2, h4⟩ := hown
  obtain ⟨a', c, rfl, hc⟩ := hys.form
  obtain ⟨css2, k1, k2, k4, k5⟩ := RowR.css hsz hys
  refine wpList_plain hgd fun _ hK => wp_append_all w s x t ho base e i z k bytes ht hi hz hsize hby hzs hsz v xs.length css.flatten hs ho2 a' ys.length c css2.flatten hx (by rw [flat_len css2 k2, k1]) (fun q => ?_) (fun u hu => ?_) h63 hbytes hbase (fun v' w' q1 q2 q3 => hK _ _ (h v' w' ?_ q2))
  · obtain ⟨g, o, e, _, _, hcell⟩ := k5 q
    exact ⟨g, o, e, hcell⟩
  · obtain ⟨cs, hcs, hu⟩ := List.mem_flatten.1 hu
    obtain ⟨j, hj, rfl⟩ := List.getElem_of_mem hcs
    exact hR.one (k4 j _ _ (List.getElem?_eq_getElem hj) (List.getElem?_eq_getElem (by omega))) u hu
  · have hst : ∀ cs x, R (fun g => A g ∧ v.ownBlock ≠ some g) w cs x → R (fun g' => A g' ∧ v'.ownBlock ≠ some g') w' cs x := fun cs x hx =>
      hR.sam hx (Sam.only (Only.grown q2) (fun g' _ hs q => hs.2 q.symm)) (fun g' hlt hs => ⟨hs.1, fun q => (q3 g' q).elim (fun r => hs.2 r) (fun r => by omega)⟩)
    refine ⟨css ++ css2, by simp [h1, k1], fun cs hcs => (List.mem_append.1 hcs).elim (h2 cs) (k2 cs), ?_, fun j cs x hc hx => ?_⟩
    · rw [List.flatten_append, List.length_append]; exact q1
    · rcases Nat.lt_or_ge j xs.length with q | q
      · rw [List.getElem?_append_left (by omega)] at hc hx
        exact hst cs x (h4 j cs x hc hx)
      · rw [List.getElem?_append_right (by omega)] at hc hx
        rw [h1] at hc
        exact hst cs x (hR.sam (k4 _ cs x hc hx) (fun _ _ _ => rfl) (fun g hg q => hS g hg q))
end
end Go.Proofs.YtnbhpmleboildaaGreatDoor
