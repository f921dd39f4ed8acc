/- tree.mergedInline: a copy of an inline whose kids are merged. Conditions: lengths. -/
import Derived.Test.YtnbhpmleboildaaGreatDoorY07
import Derived.Test.YtnbhpmleboildaaGreatDoorY13
import Derived.Test.YtnbhpmleboildaaGreatDoorY18
import Derived.Test.YtnbhpmleboildaaGreatDoorY08
import Derived.Test.YtnbhpmleboildaaGreatDoorY02
import Derived.Test.YtnbhpmleboildaaGreatDoorY01
import Derived.Test.YtnbhpmleboildaaGreatDoorY10

set_option linter.all false
namespace Go.Proofs.YtnbhpmleboildaaGreatDoor
open Go.RowKit

/-- Merged inlines: what they are is not said. -/
def MgP (n m : Nat) (w : World) (e : Ending) (w' : World) : Prop := ∃ v ys, e = .returned v ∧ Lns (fun g => w.heap.size ≤ g) n w' v ys ∧ ys.length ≤ m ∧ Kept w w'
theorem holdQ {p : Prop} (h : Hid p) : p := h.out
def MiP (n : Nat) (kind : Int) (text dest title id : Bs) (cls : List Bs) (prs : List Pr) (args : List Bs) (cits : List Cit) (w : World) (e : Ending) (w' : World) : Prop :=
  ∃ cs ys, e = .returned (.agg cs.toArray) ∧ InlK n (fun g => w.heap.size ≤ g) w' cs (Inl.mk kind text dest title id cls prs args cits ys) ∧ Kept w w'
set_option maxRecDepth 100000 in
set_option maxHeartbeats 6400000 in
theorem minl_any {S : Nat → Prop} (n : Nat) (hih : ∀ (xs : List Inl) (v : Value) (w : World), Lns S n w v xs → xs.length ≤ 1000000 → okIL xs → Calls Tryz.prog 53 #[v] w (MgP n xs.length w))
    (kind : Int) (text dest title id : Bs) (cls : List Bs) (prs : List Pr) (args : List Bs) (cits : List Cit) (kids : List Inl) (vC vP vA vT vK : Value) (w : World) (hC : Strs w vC cls) (hP : Prs w vP prs) (hA : Strs w vA args) (hT : Cits S w vT cits) (hK : Lns S n w vK kids)
    (h5 : cls.length ≤ 1000000) (h6 : prs.length ≤ 1000000) (h7 : args.length ≤ 1000000) (h8 : cits.length ≤ 1000000) (h9 : kids.length ≤ 1000000) (hok : okIL kids) :
    Calls Tryz.prog 65 #[.agg #[.int .i64 kind, .string (bs text), .string (bs dest), .string (bs title), .string (bs id), vC, vP, vA, vT, vK]] w (MiP n kind text dest title id cls prs args cits w) := by
  have HC := Lib.hid hC
  have HP := Lib.hid hP
  have HA := Lib.hid hA
  have HT := Lib.hid hT
  have HK := Lib.hid hK
  have HOK := Lib.hid hok
  have HIH := Lib.hid hih
  unfold MgP at HIH
  obtain ⟨aC, cC, rfl, lC⟩ := hC.shape
  obtain ⟨aP, cP, rfl, lP⟩ := hP.shape
  obtain ⟨aA, cA, rfl, lA⟩ := hA.shape
  obtain ⟨aT, cT, rfl, lT⟩ := hT.form
  obtain ⟨aK, cK, rfl, lK⟩ := hK.form
  have HAT := Lib.hid (fun w h1 h2 => tcat_any id (.slice aC cls.length cC) (.slice aP prs.length cP) cls prs w h1 h2 (by omega) (by omega))
  unfold CatP at HAT
  have HCS := Lib.hid (fun w h => clnS (.slice aA args.length cA) args w h (by omega))
  unfold ClnS at HCS
  have HCT := Lib.hid (fun w h => clnT (S := S) (.slice aT cits.length cT) cits w h (by omega))
  unfold ClnT at HCT
  have e1 : (w.alloc (.cells #[.int .i64 kind, .string (bs text), .string (bs dest), .string (bs title), .string (bs id), .slice aC cls.length cC, .slice aP prs.length cP, .slice aA args.length cA, .slice aT cits.length cT, .slice aK kids.length cK] 51)).heap.size = w.heap.size + 1 := by simp
  have HB0 := Lib.hid ((Blk.new w 51 #[.int .i64 kind, .string (bs text), .string (bs dest), .string (bs title), .string (bs id), .slice aC cls.length cC, .slice aP prs.length cP, .slice aA args.length cA, .slice aT cits.length cT, .slice aK kids.length cK]).alloc (.cells #[.int .i64 0, .string (bs []), .string (bs []), .string (bs []), .string (bs []), .slice none 0 0, .slice none 0 0, .slice none 0 0, .slice none 0 0, .slice none 0 0] 51))
  have HR0 := Blk.new (w.alloc (.cells #[.int .i64 kind, .string (bs text), .string (bs dest), .string (bs title), .string (bs id), .slice aC cls.length cC, .slice aP prs.length cP, .slice aA args.length cA, .slice aT cits.length cT, .slice aK kids.length cK] 51)) 51 #[.int .i64 0, .string (bs []), .string (bs []), .string (bs []), .string (bs []), .slice none 0 0, .slice none 0 0, .slice none 0 0, .slice none 0 0, .slice none 0 0]
  rw [e1] at HR0
  have HR := Lib.hid HR0
  have HK0 := Lib.hid ((kept_alloc w (.cells #[.int .i64 kind, .string (bs text), .string (bs dest), .string (bs title), .string (bs id), .slice aC cls.length cC, .slice aP prs.length cP, .slice aA args.length cA, .slice aT cits.length cT, .slice aK kids.length cK] 51)).trans (kept_alloc _ (.cells #[.int .i64 0, .string (bs []), .string (bs []), .string (bs []), .string (bs []), .slice none 0 0, .slice none 0 0, .slice none 0 0, .slice none 0 0, .slice none 0 0] 51)))
  clear HR0 e1 hC hP hA hT hK hok hih
  obtain ⟨B, HBB⟩ : ∃ B, Hid (w.heap.size = B) := ⟨_, rfl⟩
  have hBz : w.heap.size ≤ B := by rw [HBB.out]; exact Nat.le_refl _
  have hBz1 : w.heap.size ≤ B + 1 := by omega
  go_enter Tryz.func65, Tryz.ntmps65
  go_wp2_with fail
  generalize World.alloc (World.alloc _ _) _ = w0 at *
  rw [HBB.out] at HB0 HR ⊢
  clear HBB
  have hBw0 : B < w0.heap.size := HB0.out.lt
  have hRw0 : B + 1 < w0.heap.size := HR.out.lt
  refine (HAT.out _ (HC.out.kept HK0.out) (HP.out.kept HK0.out)).mono ?_
  rintro e w1 ⟨vC1, vP1, rfl, ⟨hc1, hi1⟩, ⟨hp1, hj1⟩, hk1⟩
  obtain ⟨aC1, cC1, rfl, lC1⟩ := hc1.shape
  obtain ⟨aP1, cP1, rfl, lP1⟩ := hp1.shape
  have HC1 := Lib.hid hc1
  have HP1 := Lib.hid hp1
  have HIC : Hid (InB (fun g => B + 1 < g) (.slice aC1 cls.length cC1) cls.length) := hi1.mono (fun g _ _ q => by omega)
  have HIP : Hid (InB (fun g => B + 1 < g) (.slice aP1 prs.length cP1) prs.length) := hj1.mono (fun g _ _ q => by omega)
  have HB1 := Lib.hid (HB0.out.kept hk1)
  have HR1 := Lib.hid (HR.out.kept hk1)
  have HK1 := Lib.hid (HK0.out.trans hk1)
  clear hc1 hp1 hi1 hj1 hk1 HB0 HR HK0 HAT HC HP
  go_wp2_with (refine wpList_store_part rfl 35 (.tmp 6) (.tmp 5) (by rfl) B 4 51 _ #[.string (bs id), .slice aC1 cls.length cC1, .slice aP1 prs.length cP1] (by rfl) (by rfl) HB1.out (by show 4 + 3 ≤ 10; omega) Tryz.sizeAt (by simp only [List.all_toArray, List.all_cons, List.all_nil]; rfl) ?_; intro w2 hb2 ho2; refine holdQ ?_)
  refine Lib.hid ?_
  have HB2 : Hid (Blk w2 B 51 #[.int .i64 kind, .string (bs text), .string (bs dest), .string (bs title), .string (bs id), .slice aC1 cls.length cC1, .slice aP1 prs.length cP1, .slice aA args.length cA, .slice aT cits.length cT, .slice aK kids.length cK]) := hb2
  have b7 : w2.cell? ⟨B, 7, none⟩ = some (.slice aA args.length cA) := HB2.out.cell 7 _ rfl
  have bz := HB2.out.lt
  have HR2 := Lib.hid (HR1.out.onl ho2 (by omega))
  have HK2 := Lib.hid (HK1.out.trans' (ho2.below HK1.out.size (fun i e => by rw [e]; exact hBz)))
  have HC2 := Lib.hid (HC1.out.onlS HIC.out ho2 (fun g _ hs q => by omega))
  have HP2 := Lib.hid (HP1.out.onlS HIP.out ho2 (fun g _ hs q => by omega))
  clear hb2 ho2 HB1 HR1 HK1 HC1 HP1
  go_wp2_with fail
  refine (HCS.out _ (HA.out.kept HK2.out)).mono ?_
  rintro e w3 ⟨vA1, rfl, ha3, hi3, hk3⟩
  obtain ⟨aA1, cA1, rfl, lA1⟩ := ha3.shape
  have HIA : Hid (InB (fun g => B + 1 < g) (.slice aA1 args.length cA1) args.length) := hi3.mono (fun g _ _ q => by have := HR2.out.lt; omega)
  have hb3 := HB2.out.kept hk3
  have a3 : w3.cell? ⟨B, 7, none⟩ = some (.slice aA args.length cA) := hb3.cell 7 _ rfl
  have f3 := hb3.free 7
  have z3 := hb3.lt
  have ho4 := Only.setCell (w := w3) B 7 (.slice aA1 args.length cA1)
  have HB4 : Hid (Blk (w3.setCell ⟨B, 7, none⟩ (.slice aA1 args.length cA1)) B 51 #[.int .i64 kind, .string (bs text), .string (bs dest), .string (bs title), .string (bs id), .slice aC1 cls.length cC1, .slice aP1 prs.length cP1, .slice aA1 args.length cA1, .slice aT cits.length cT, .slice aK kids.length cK]) := hb3.set 7 _
  have t4 : (w3.setCell ⟨B, 7, none⟩ (.slice aA1 args.length cA1)).cell? ⟨B, 8, none⟩ = some (.slice aT cits.length cT) := HB4.out.cell 8 _ rfl
  have HR4 := Lib.hid ((HR2.out.kept hk3).onl ho4 (by omega))
  have HK4 := Lib.hid ((HK2.out.trans hk3).trans' (ho4.below (HK2.out.trans hk3).size (fun i e => by rw [e]; exact hBz)))
  have HC4 := Lib.hid ((HC2.out.kept hk3).onlS HIC.out ho4 (fun g _ hs q => by omega))
  have HP4 := Lib.hid ((HP2.out.kept hk3).onlS HIP.out ho4 (fun g _ hs q => by omega))
  have HA4 := Lib.hid (ha3.onlS HIA.out ho4 (fun g _ hs q => by omega))
  clear ha3 hi3 hk3 hb3 ho4 HB2 HR2 HK2 HC2 HP2 b7 bz HA HCS
  go_wp2_with fail
  generalize World.setCell _ _ _ = w4 at *
  clear a3 f3 z3
  refine (HCT.out _ (HT.out.sam (S' := S) (Sam.kept HK4.out) (fun _ _ q => q))).mono ?_
  rintro e w5 ⟨vT1, rfl, ht5, hk5⟩
  obtain ⟨aT1, cT1, rfl, lT1⟩ := ht5.form
  have hb5 := HB4.out.kept hk5
  have a5 : w5.cell? ⟨B, 8, none⟩ = some (.slice aT cits.length cT) := hb5.cell 8 _ rfl
  have f5 := hb5.free 8
  have z5 := hb5.lt
  have hr4 := HR4.out.lt
  have ht5' : Cits (fun g => B + 1 < g) w5 (.slice aT1 cits.length cT1) cits := ht5.sam (fun _ _ _ => rfl) (fun g _ q => by omega)
  have ho6 := Only.setCell (w := w5) B 8 (.slice aT1 cits.length cT1)
  have HB6 : Hid (Blk (w5.setCell ⟨B, 8, none⟩ (.slice aT1 cits.length cT1)) B 51 #[.int .i64 kind, .string (bs text), .string (bs dest), .string (bs title), .string (bs id), .slice aC1 cls.length cC1, .slice aP1 prs.length cP1, .slice aA1 args.length cA1, .slice aT1 cits.length cT1, .slice aK kids.length cK]) := hb5.set 8 _
  have t6 : (w5.setCell ⟨B, 8, none⟩ (.slice aT1 cits.length cT1)).cell? ⟨B, 9, none⟩ = some (.slice aK kids.length cK) := HB6.out.cell 9 _ rfl
  have HR6 := Lib.hid ((HR4.out.kept hk5).onl ho6 (by omega))
  have HK6 := Lib.hid ((HK4.out.trans hk5).trans' (ho6.below (HK4.out.trans hk5).size (fun i e => by rw [e]; exact hBz)))
  have HC6 := Lib.hid ((HC4.out.kept hk5).onlS HIC.out ho6 (fun g _ hs q => by omega))
  have HP6 := Lib.hid ((HP4.out.kept hk5).onlS HIP.out ho6 (fun g _ hs q => by omega))
  have HA6 := Lib.hid ((HA4.out.kept hk5).onlS HIA.out ho6 (fun g _ hs q => by omega))
  have HT6 := Lib.hid (ht5'.sam (S' := fun g => B + 1 < g) (Sam.only ho6 (fun g _ hs q => by omega)) (fun _ _ q => q))
  clear ht5 ht5' hk5 hb5 ho6 HB4 HR4 HK4 HC4 HP4 HA4 t4 HT HCT hr4
  go_wp2_with fail
  generalize World.setCell _ _ _ = w6 at *
  clear a5 f5 z5
  refine (HIH.out kids (.slice aK kids.length cK) w6 (HK.out.kept HK6.out) h9 HOK.out).mono ?_
  rintro e w7 ⟨vK1, ys, rfl, hl7, hn7, hk7⟩
  obtain ⟨aK1, cK1, rfl, lK1⟩ := hl7.form
  have hb7 := HB6.out.kept hk7
  have a7 : w7.cell? ⟨B, 9, none⟩ = some (.slice aK kids.length cK) := hb7.cell 9 _ rfl
  have f7 := hb7.free 9
  have z7 := hb7.lt
  have hr6 := HR6.out.lt
  have hl7' : Lns (fun g => B + 1 < g) n w7 (.slice aK1 ys.length cK1) ys := hl7.mono (fun g _ q => by omega)
  have ho8 := Only.setCell (w := w7) B 9 (.slice aK1 ys.length cK1)
  have HB8 : Hid (Blk (w7.setCell ⟨B, 9, none⟩ (.slice aK1 ys.length cK1)) B 51 #[.int .i64 kind, .string (bs text), .string (bs dest), .string (bs title), .string (bs id), .slice aC1 cls.length cC1, .slice aP1 prs.length cP1, .slice aA1 args.length cA1, .slice aT1 cits.length cT1, .slice aK1 ys.length cK1]) := hb7.set 9 _
  have HR8 := Lib.hid ((HR6.out.kept hk7).onl ho8 (by omega))
  have HK8 := Lib.hid ((HK6.out.trans hk7).trans' (ho8.below (HK6.out.trans hk7).size (fun i e => by rw [e]; exact hBz)))
  have HC8 := Lib.hid ((HC6.out.kept hk7).onlS HIC.out ho8 (fun g _ hs q => by omega))
  have HP8 := Lib.hid ((HP6.out.kept hk7).onlS HIP.out ho8 (fun g _ hs q => by omega))
  have HA8 := Lib.hid ((HA6.out.kept hk7).onlS HIA.out ho8 (fun g _ hs q => by omega))
  have HT8 := Lib.hid ((HT6.out.sam (S' := fun g => B + 1 < g) (Sam.kept hk7) (fun _ _ q => q)).sam (S' := fun g => B + 1 < g) (Sam.only ho8 (fun g _ hs q => by omega)) (fun _ _ q => q))
  have HL8 := Lib.hid (hl7'.sam (S' := fun g => B + 1 < g) (Sam.only ho8 (fun g _ hs q => by omega)) (fun _ _ q => q))
  clear hl7 hl7' hk7 hb7 ho8 HB6 HR6 HK6 HC6 HP6 HA6 HT6 t6 HK HIH hr6
  go_wp2_with (first
    | (refine wpList_load_blk (by rfl) 51 (.tmp 1) (by rfl) B _ (by rfl) HB8.out _ Tryz.underlying51 rfl Tryz.sizeIn ?_)
    | (refine wpList_store_blk rfl 51 (.tmp 2) (.tmp 19) (by rfl) (B + 1) _ #[.int .i64 kind, .string (bs text), .string (bs dest), .string (bs title), .string (bs id), .slice aC1 cls.length cC1, .slice aP1 prs.length cP1, .slice aA1 args.length cA1, .slice aT1 cits.length cT1, .slice aK1 ys.length cK1] (by rfl) (by rfl) HR8.out rfl Tryz.sizeIn (by simp only [List.all_toArray, List.all_cons, List.all_nil]; rfl) ?_; intro w9 hb9 ho9; refine holdQ ?_))
  refine Lib.hid ?_
  have r0 : w9.cell? ⟨B + 1, 0, none⟩ = some (.int .i64 kind) := hb9.cell 0 _ rfl
  have r1 : w9.cell? ⟨B + 1, 1, none⟩ = some (.string (bs text)) := hb9.cell 1 _ rfl
  have r2 : w9.cell? ⟨B + 1, 2, none⟩ = some (.string (bs dest)) := hb9.cell 2 _ rfl
  have r3 : w9.cell? ⟨B + 1, 3, none⟩ = some (.string (bs title)) := hb9.cell 3 _ rfl
  have r4 : w9.cell? ⟨B + 1, 4, none⟩ = some (.string (bs id)) := hb9.cell 4 _ rfl
  have r5 : w9.cell? ⟨B + 1, 5, none⟩ = some (.slice aC1 cls.length cC1) := hb9.cell 5 _ rfl
  have r6 : w9.cell? ⟨B + 1, 6, none⟩ = some (.slice aP1 prs.length cP1) := hb9.cell 6 _ rfl
  have r7 : w9.cell? ⟨B + 1, 7, none⟩ = some (.slice aA1 args.length cA1) := hb9.cell 7 _ rfl
  have r8 : w9.cell? ⟨B + 1, 8, none⟩ = some (.slice aT1 cits.length cT1) := hb9.cell 8 _ rfl
  have r9 : w9.cell? ⟨B + 1, 9, none⟩ = some (.slice aK1 ys.length cK1) := hb9.cell 9 _ rfl
  have rz := hb9.lt
  have HK9 := Lib.hid (HK8.out.trans' (ho9.below HK8.out.size (fun i e => by rw [e]; exact hBz1)))
  have HC9 := Lib.hid (HC8.out.onlS HIC.out ho9 (fun g _ hs q => by omega))
  have HP9 := Lib.hid (HP8.out.onlS HIP.out ho9 (fun g _ hs q => by omega))
  have HA9 := Lib.hid (HA8.out.onlS HIA.out ho9 (fun g _ hs q => by omega))
  have HT9 := Lib.hid (HT8.out.sam (S' := fun g => B + 1 < g) (Sam.only ho9 (fun g _ hs q => by omega)) (fun _ _ q => q))
  have HL9 := Lib.hid (HL8.out.sam (S' := fun g => B + 1 < g) (Sam.only ho9 (fun g _ hs q => by omega)) (fun _ _ q => q))
  clear hb9 ho9
  have HFIN : MiP n kind text dest title id cls prs args cits w (.returned (.agg #[.int .i64 kind, .string (bs text), .string (bs dest), .string (bs title), .string (bs id), .slice aC1 cls.length cC1, .slice aP1 prs.length cP1, .slice aA1 args.length cA1, .slice aT1 cits.length cT1, .slice aK1 ys.length cK1])) w9 := ⟨_, ys, rfl, ⟨_, _, _, _, _, rfl, ⟨HC9.out, HIC.out.mono fun g _ _ q => by omega⟩, ⟨HP9.out, HIP.out.mono fun g _ _ q => by omega⟩, ⟨HA9.out, HIA.out.mono fun g _ _ q => by omega⟩, HT9.out.sam (fun _ _ _ => rfl) (fun g _ q => by omega), HL9.out.mono (fun g _ q => by omega)⟩, HK9.out⟩
  go_wp2_with fail
  refine bodyPost_ret (v := .agg #[.int .i64 kind, .string (bs text), .string (bs dest), .string (bs title), .string (bs id), .slice aC1 cls.length cC1, .slice aP1 prs.length cP1, .slice aA1 args.length cA1, .slice aT1 cits.length cT1, .slice aK1 ys.length cK1]) ?_ rfl HFIN
  simp [results, Tryz.results65, go_sem, r0, r1, r2, r3, r4, r5, r6, r7, r8, r9, rz]
end Go.Proofs.YtnbhpmleboildaaGreatDoor

/- strings.Builder's String: which blocks it leaves alone. Condition: the builder holds a byte. -/
set_option linter.all false
namespace Go.Proofs.YtnbhpmleboildaaGreatDoor
open Go.RowKit

theorem only_freeze (w : World) (g n : Nat) : Only (fun i => i = g) w (w.freeze ⟨g, 0, none⟩ n) := by
  unfold World.freeze
  split
  · exact Only.of_kept (Kept.refl w)
  · exact ⟨rfl, rfl, rfl, by simp, fun k _ hs => by
      simp only [Array.getElem?_modify]
      rw [if_neg (fun q => hs q.symm)]⟩
set_option maxRecDepth 100000 in
set_option maxHeartbeats 3200000 in
theorem bld_str (B b : Nat) (l : Bs) (w0 w : World) (h : Lib.IsBuilder 114 5 B b (Lib.byteCells l) w0) (k : Kept w0 w) (h0 : l ≠ []) :
    Calls Tryz.prog 57 #[.pointer (some ⟨b, 0, none⟩)] w fun e w' => e = .returned (.string (bs l)) ∧ Only (fun i => B ≤ i ∧ i < w0.heap.size) w w' := by
  obtain ⟨p, hB, v, hbk, hown, hne⟩ : ∃ p, Lib.BuilderAt 114 5 B b p (Lib.byteCells l) w0 := by rcases h with h | h <;> exact ⟨_, h⟩
  have hl0 : l.length ≠ 0 := by simpa using h0
  have hown2 := own_kept hown k
  rw [Lib.byteCells_length] at hown2 hown
  have hblt : b < w0.heap.size := by
    rcases Nat.lt_or_ge b w0.heap.size with q | q
    · exact q
    · rw [Array.getElem?_eq_none q] at hbk; cases hbk
  have hbk2 : w.heap[b]? = some (.cells #[p, v] 114 (0, 0)) := by rw [k.block b hblt]; exact hbk
  obtain ⟨g, cap, cur, hv, hbg, hg, hnc, hcm, hcs, htake⟩ : ∃ g cap cur, v = .slice (some ⟨g, 0, none⟩) l.length cap ∧ B ≤ g ∧ w.heap[g]? = some (.cells cur 5 (0, 0)) ∧ l.length ≤ cap ∧ cap ≤ maxLen ∧ cur.size = cap * 1 ∧ cur.toList.take (l.length * 1) = Lib.byteCells l := by
    rcases hown2.2 with ⟨_, hz⟩ | ⟨g, cap, cur, hv, r⟩
    · exact absurd hz hl0
    · exact ⟨g, cap, cur, hv, r⟩
  subst hv
  have hglt : g < w0.heap.size := (hown.lt g rfl).2
  have c1 : w.drew.cell? ⟨b, 1, none⟩ = some (.slice (some ⟨g, 0, none⟩) l.length cap) := by
    have h : w.drew.heap[b]? = some (.cells #[p, .slice (some ⟨g, 0, none⟩) l.length cap] 114 (0, 0)) := hbk2
    rw [Lib.cell_of_heap h]; rfl
  have hSD : (Builtin.unsafeSliceData_ #[112] 129 #[.slice (some ⟨g, 0, none⟩) l.length cap]).run Tryz.prog w.drew = .ok (.pointer (some ⟨g, 0, none⟩)) w.drew := Lib.run_unsafeSliceData_row _ _ _ _ _ _ (by omega)
  have hUS : (Builtin.unsafeString_ #[129, 3] 9 #[.pointer (some ⟨g, 0, none⟩), .int .i64 l.length]).run Tryz.prog w.drew = .ok (.string (bs l)) (w.drew.freeze ⟨g, 0, none⟩ l.length) := by
    refine Lib.run_unsafeString_row w.drew 129 3 9 5 Tryz.underlying129 (by kernel_rfl) g cur.size (by have hg' : w.drew.heap[g]? = some (.cells cur 5 (0, 0)) := hg; simp [World.shape?, hg']) l h0 (by omega) (by unfold maxLen at hcm; omega) ?_
    intro j x hx
    exact hown2.cells (g := g) rfl j (.int .u8 x.toNat) (by simp [Lib.byteCells, hx])
  have hbz : b < w.drew.heap.size := Nat.lt_of_lt_of_le hblt k.size
  have HFIN : Hid (Only (fun i => B ≤ i ∧ i < w0.heap.size) w (w.drew.freeze ⟨g, 0, none⟩ l.length)) := (Only.of_kept (kept_drewN w 1)).trans ((only_freeze w.drew g l.length).mono (fun i _ q => by rw [q]; exact ⟨hbg, hglt⟩))
  clear hown hown2 hbk hbk2 hg htake hne h k
  go_enter Tryz.func57, Tryz.ntmps57
  go_wp2_with fail
  go_region
  all_goals (go_wp2_with fail; go_ret; exact ⟨rfl, HFIN.out⟩)
end Go.Proofs.YtnbhpmleboildaaGreatDoor

/- tree.Merge: inlines whose neighbouring texts are one; what they are is not said. Conditions: lengths. -/
set_option linter.all false
namespace Go.Proofs.YtnbhpmleboildaaGreatDoor
open Go.RowKit

theorem Tryz.infoIn4 : (Tryz.prog.info? 51).map (fun i => (i.zero, i.size, i.bytes)) = some (some (.agg #[.int .i64 0, .string ⟨#[]⟩, .string ⟨#[]⟩, .string ⟨#[]⟩, .string ⟨#[]⟩, .slice none 0 0, .slice none 0 0, .slice none 0 0, .slice none 0 0, .slice none 0 0]), 10, 192) := by kernel_rfl
set_option maxRecDepth 100000 in
set_option maxHeartbeats 12800000 in
theorem merge_any {S : Nat → Prop} : ∀ (n : Nat) (xs : List Inl) (v : Value) (w : World), Lns S n w v xs → xs.length ≤ 1000000 → okIL xs → Calls Tryz.prog 53 #[v] w (MgP n xs.length w) := by
  intro n
  induction n with
  | zero =>
    intro xs v w hv hl hok
    obtain rfl := hv.no
    obtain ⟨a, c, rfl, hc⟩ := hv.form
    have HFIN : MgP 0 ([] : List Inl).length w (.returned (.slice none 0 0)) w := ⟨_, [], rfl, Lns.none_ _ _ _, Nat.le_refl _, Kept.refl w⟩
    generalize hP : MgP 0 ([] : List Inl).length w = P at *
    clear hv hok hP
    go_enter Tryz.func53, Tryz.ntmps53
    go_wp2_with fail
    go_loopw [3, 4] (fun o i wr => o = .slice none 0 0 ∧ i = .int .i64 0 ∧ w = wr) (fun _ _ _ => 1)
    case atStart => exact ⟨rfl, rfl, rfl⟩
    case round =>
      obtain ⟨rfl, rfl, rfl⟩ := hrel
      go_wp2_with fail
      (try go_ret)
      exact HFIN
  | succ n ih =>
    intro xs v w hv hl hok
    have HMI := Lib.hid (minl_any (S := S) n ih)
    unfold MiP at HMI
    have HV := Lib.hid hv
    have HOK := Lib.hid hok
    have HFIN : Hid (∀ v ys w', OutG (InlK n) 10 (fun g => w.heap.size ≤ g) w.heap.size 51 w' v ys → ys.length ≤ xs.length → Kept w w' → MgP (n + 1) xs.length w (.returned v) w') := fun v ys w' h1 h2 h3 => ⟨v, ys, rfl, OutG.row (S := fun g => w.heap.size ≤ g) (inlK n) h1 (fun g _ h => h) (fun g h => h), h2, h3⟩
    obtain ⟨i0, hi, hz0, hz1, hz2⟩ := info_parts Tryz.infoIn4
    obtain ⟨a, c, rfl, hc⟩ := hv.form
    generalize hP : MgP (n + 1) xs.length w = P at *
    clear hP hv hok ih
    go_enter Tryz.func53, Tryz.ntmps53
    go_wp2_with fail
    go_loopw [3, 4] (fun o i wr => ∃ (k : Nat) (ys : List Inl), k ≤ xs.length ∧ i = .int .i64 k ∧ ys.length ≤ k ∧ Hid (OutG (InlK n) 10 (fun g => w.heap.size ≤ g) w.heap.size 51 wr o ys) ∧ Hid (Kept w wr)) (fun _ i _ => xs.length - (intOf i).toNat)
    case atStart => exact ⟨0, [], Nat.zero_le _, rfl, Nat.le_refl _, OutG.nil _ _ _ _ _ _, Kept.refl w⟩
    case round =>
      obtain ⟨k, ys, hk, rfl, hyl, HGR, HKR⟩ := hrel
      obtain ⟨ar, cr, rfl, hcr, hmr⟩ := HGR.out.form
      by_cases hlt : k < xs.length
      · obtain ⟨x, hx⟩ : ∃ x, xs[k]? = some x := ⟨_, List.getElem?_eq_getElem hlt⟩
        have hfit := (okIL_at HOK.out x (List.mem_of_getElem? hx)).fit
        by_cases hk1 : x.kind = 1
        · have HXK := Lib.hid hx
          obtain ⟨g, o, vC, vP, vA, vT, vK, rfl, hgg, hgS, -, -, ⟨d0, -, -, -, -, -, -, -, -, -⟩, -, -⟩ := Lns.at_ (HV.out.kept HKR.out) k x hx
          rw [hk1] at d0
          clear hx hfit
          have HB0 : Hid (Lib.IsBuilder 114 5 wr.heap.size wr.heap.size (Lib.byteCells []) (wr.alloc (.cells #[.pointer none, .slice none 0 0] 114))) := by
            show Lib.IsBuilder _ _ _ _ _ _
            refine .inl ⟨Nat.le_refl _, .slice none 0 0, ?_, World.ownsRow_nil _ _ _ _, by simp [Value.ownBlock]⟩
            exact heap_alloc_new wr _
          have HKW := Lib.hid HKR.out
          have HGW := Lib.hid HGR.out
          have HK0 := Lib.hid (kept_alloc wr (.cells #[.pointer none, .slice none 0 0] 114))
          have hrz : w.heap.size ≤ wr.heap.size := HKR.out.size
          obtain ⟨wB, rfl⟩ : ∃ wo : World, wo = wr := ⟨_, rfl⟩
          clear HKR HGR
          go_wp2_with fail
          clear d0
          go_loopw [4, 5] (fun i f wr => ∃ (k2 : Nat) (T : Bs), k ≤ k2 ∧ k2 ≤ xs.length ∧ i = .int .i64 k2 ∧ (f = .int .i64 (-1) ∨ ∃ j : Nat, j < k2 ∧ f = .int .i64 j ∧ T ≠ []) ∧ T.length ≤ 1000000 * k2 ∧ Hid (Lib.IsBuilder 114 5 wB.heap.size wB.heap.size (Lib.byteCells T) wr) ∧ Hid (Kept wB wr)) (fun i _ _ => xs.length - (intOf i).toNat)
          case atStart => exact ⟨k, [], Nat.le_refl _, hk, rfl, .inl rfl, by simp, HB0.out, HK0.out⟩
          case round =>
            obtain ⟨k2, T, hkk, hk2, rfl, hf, hTl, HB, HKT⟩ := hrel
            by_cases hlt2 : k2 < xs.length
            · obtain ⟨x, hx⟩ : ∃ x, xs[k2]? = some x := ⟨_, List.getElem?_eq_getElem hlt2⟩
              have hfit := (okIL_at HOK.out x (List.mem_of_getElem? hx)).fit
              obtain ⟨g', o', vC, vP, vA, vT, vK, he, hgg', -, -, -, ⟨d0, d1, -, -, -, -, -, -, -, -⟩, -, -⟩ := Lns.at_ (HV.out.kept (HKW.out.trans HKT.out)) k2 x hx
              cases he
              obtain ⟨kind, text, dest, title, id, cls, prs, args, cits, kids⟩ := x
              simp only [Inl.kind, Inl.text] at d0 d1 hfit
              obtain ⟨⟨f1, -⟩, -⟩ := hfit
              have HST := Lib.hid (fun w h h2 => bld_string wB.heap.size wB.heap.size (Lib.byteCells T) text w h (by rw [Lib.byteCells_length]; omega) h2)
              have HBS : Hid (wB.heap.size ≤ wr.heap.size) := HKT.out.size
              by_cases hkd : kind = 1
              · subst hkd
                rcases hf with rfl | ⟨j, hj, rfl, hTn⟩
                · by_cases ht : text = []
                  · subst ht
                    go_wp2_with fail
                    refine (HST.out _ HB.out HBS.out).mono ?_
                    rintro e w5 ⟨rfl, hb5, hbe5⟩
                    have HB5 : Hid (Lib.IsBuilder 114 5 wB.heap.size wB.heap.size (Lib.byteCells (T ++ ([] : Bs))) w5) := by
                      refine .inr ?_
                      show Lib.BuilderAt _ _ _ _ _ _ _
                      rw [byteC_app]; exact hb5
                    have HK5 := Lib.hid (HKT.out.trans' hbe5)
                    clear hb5 hbe5 HB HKT HBS HST d0 d1 hx
                    go_wp2_with fail
                    go_roundw
                    case rel => exact ⟨k2 + 1, T ++ ([] : Bs), by omega, by omega, by go_num, .inl rfl, by rw [List.length_append]; omega, HB5.out, HK5.out⟩
                    case measure => simp [intOf]; omega
                  · have htb : text.isEmpty = false := by rw [List.isEmpty_eq_false_iff]; exact ht
                    go_wp2_with fail
                    refine (HST.out _ HB.out HBS.out).mono ?_
                    rintro e w5 ⟨rfl, hb5, hbe5⟩
                    have HB5 : Hid (Lib.IsBuilder 114 5 wB.heap.size wB.heap.size (Lib.byteCells (T ++ text)) w5) := by
                      refine .inr ?_
                      show Lib.BuilderAt _ _ _ _ _ _ _
                      rw [byteC_app]; exact hb5
                    have HK5 := Lib.hid (HKT.out.trans' hbe5)
                    clear hb5 hbe5 HB HKT HBS HST d0 d1 hx
                    go_wp2_with fail
                    go_roundw
                    case rel => exact ⟨k2 + 1, T ++ text, by omega, by omega, by go_num, .inr ⟨k2, by omega, rfl, fun q => ht (List.append_eq_nil_iff.1 q).2⟩, by rw [List.length_append]; omega, HB5.out, HK5.out⟩
                    case measure => simp [intOf]; omega
                · go_wp2_with fail
                  refine (HST.out _ HB.out HBS.out).mono ?_
                  rintro e w5 ⟨rfl, hb5, hbe5⟩
                  have HB5 : Hid (Lib.IsBuilder 114 5 wB.heap.size wB.heap.size (Lib.byteCells (T ++ text)) w5) := by
                    refine .inr ?_
                    show Lib.BuilderAt _ _ _ _ _ _ _
                    rw [byteC_app]; exact hb5
                  have HK5 := Lib.hid (HKT.out.trans' hbe5)
                  clear hb5 hbe5 HB HKT HBS HST d0 d1 hx
                  go_wp2_with fail
                  go_roundw
                  case rel => exact ⟨k2 + 1, T ++ text, by omega, by omega, by go_num, .inr ⟨j, by omega, rfl, fun q => hTn (List.append_eq_nil_iff.1 q).1⟩, by rw [List.length_append]; omega, HB5.out, HK5.out⟩
                  case measure => simp [intOf]; omega
              · have HXN : Hid (k < k2) := by
                  rcases Nat.lt_or_ge k k2 with q | q
                  · exact q
                  · have : k = k2 := by omega
                    subst this
                    have h := HXK.out
                    rw [hx] at h; cases h
                    exact absurd hk1 hkd
                have hkl := HXN.out
                rcases hf with rfl | ⟨j, hj, rfl, hTn⟩
                · have HGX := Lib.hid (HGW.out.kept (inlK n) HKT.out)
                  have HKX := Lib.hid (HKW.out.trans HKT.out)
                  clear HB HKT
                  go_wp2_with fail
                  go_roundw
                  case rel => exact ⟨k2, ys, hk2, by go_num, by omega, HGX.out, HKX.out⟩
                  case measure => simp [intOf]; omega
                · have e0 := d0
                  clear d0 d1 hx
                  obtain ⟨x, hx⟩ : ∃ x, xs[j]? = some x := ⟨_, List.getElem?_eq_getElem (by omega)⟩
                  have hfit := (okIL_at HOK.out x (List.mem_of_getElem? hx)).fit
                  obtain ⟨g', o', vC, vP, vA, vT, vK, he, hgg', -, -, -, ⟨d0, d1, d2, d3, d4, d5, d6, d7, d8, d9⟩, -, ⟨hC, iC⟩, ⟨hPP, iP⟩, ⟨hA, iA⟩, hTT, hK⟩ := Lns.at_ (HV.out.kept (HKW.out.trans HKT.out)) j x hx
                  cases he
                  obtain ⟨kind, text, dest, title, id, cls, prs, args, cits, kids⟩ := x
                  simp only [Inl.kind, Inl.text, Inl.dest, Inl.title, Inl.id, Inl.cls, Inl.prs, Inl.args, Inl.cits, Inl.kids] at d0 d1 d2 d3 d4 hC hPP hA hTT hK hfit
                  obtain ⟨⟨f1, f2, f3, f4, f5, f6, f7, f8, f9⟩, f10⟩ := hfit
                  obtain ⟨aC, cC, rfl, lC⟩ := hC.shape
                  obtain ⟨aP, cP, rfl, lP⟩ := hPP.shape
                  obtain ⟨aA, cA, rfl, lA⟩ := hA.shape
                  obtain ⟨aT, cT, rfl, lT⟩ := hTT.form
                  obtain ⟨aK, cK, rfl, lK⟩ := hK.form
                  have HMX := Lib.hid (HMI.out kind text dest title id cls prs args cits kids _ _ _ _ _ wr hC hPP hA hTT hK (by omega) (by omega) (by omega) (by omega) (by omega) f10)
                  clear iC iP iA hC hPP hA hTT hK f10 hx
                  go_wp2_with fail
                  refine HMX.out.mono ?_
                  rintro e w4 ⟨cs, zs, rfl, hI, hk4⟩
                  obtain ⟨vC1, vP1, vA1, vT1, vK1, rfl, ⟨hc1, ic1⟩, ⟨hp1, ip1⟩, ⟨ha1, ia1⟩, ht1, hl1⟩ := hI
                  simp only [Inl.cls, Inl.prs, Inl.args, Inl.cits, Inl.kids, Inl.kind, Inl.text, Inl.dest, Inl.title, Inl.id] at hc1 ic1 hp1 ip1 ha1 ia1 ht1 hl1
                  obtain ⟨aC1, cC1, rfl, lC1⟩ := hc1.shape
                  obtain ⟨aP1, cP1, rfl, lP1⟩ := hp1.shape
                  obtain ⟨aA1, cA1, rfl, lA1⟩ := ha1.shape
                  obtain ⟨aT1, cT1, rfl, lT1⟩ := ht1.form
                  obtain ⟨aK1, cK1, rfl, lK1⟩ := hl1.form
                  dsimp only [inlC, Inl.kind, Inl.text, Inl.dest, Inl.title, Inl.id]
                  have hwr : wB.heap.size ≤ wr.heap.size := HKT.out.size
                  have hJ0 := Blk.new w4 51 #[.int .i64 kind, .string (bs text), .string (bs dest), .string (bs title), .string (bs id), .slice aC1 cls.length cC1, .slice aP1 prs.length cP1, .slice aA1 args.length cA1, .slice aT1 cits.length cT1, .slice aK1 zs.length cK1]
                  have hkJ := kept_alloc w4 (.cells #[.int .i64 kind, .string (bs text), .string (bs dest), .string (bs title), .string (bs id), .slice aC1 cls.length cC1, .slice aP1 prs.length cP1, .slice aA1 args.length cA1, .slice aT1 cits.length cT1, .slice aK1 zs.length cK1] 51)
                  obtain ⟨J, HJE⟩ : ∃ J, Hid (w4.heap.size = J) := ⟨_, rfl⟩
                  have hrJ : wr.heap.size ≤ J := by have h1 := hk4.size; have h2 := HJE.out; omega
                  have HST := Lib.hid (bld_str wB.heap.size wB.heap.size T wr (w4.alloc (.cells #[.int .i64 kind, .string (bs text), .string (bs dest), .string (bs title), .string (bs id), .slice aC1 cls.length cC1, .slice aP1 prs.length cP1, .slice aA1 args.length cA1, .slice aT1 cits.length cT1, .slice aK1 zs.length cK1] 51)) HB.out (hk4.trans hkJ) hTn)
                  have HKJ := Lib.hid ((HKT.out.trans hk4).trans hkJ)
                  have HC4 := Lib.hid (hc1.kept hkJ)
                  have HP4 := Lib.hid (hp1.kept hkJ)
                  have HA4 := Lib.hid (ha1.kept hkJ)
                  have HT4 := Lib.hid (ht1.sam (S' := fun g => wr.heap.size ≤ g ∧ g ≠ J) (Sam.kept hkJ) (fun g q r => ⟨r, fun e => by have := HJE.out; omega⟩))
                  have HL4 := Lib.hid (hl1.sam (S' := fun g => wr.heap.size ≤ g ∧ g ≠ J) (Sam.kept hkJ) (fun g q r => ⟨r, fun e => by have := HJE.out; omega⟩))
                  have HIC := Lib.hid ic1
                  have HIP := Lib.hid ip1
                  have HIA := Lib.hid ia1
                  have HIC4 : Hid (InB (fun g => wr.heap.size ≤ g ∧ g ≠ J) (.slice aC1 cls.length cC1) cls.length) := fun q g hg => ⟨ic1 q g hg, fun e => by have h1 := hc1.ltB q g hg; have h2 := HJE.out; omega⟩
                  have HIP4 : Hid (InB (fun g => wr.heap.size ≤ g ∧ g ≠ J) (.slice aP1 prs.length cP1) prs.length) := fun q g hg => ⟨ip1 q g hg, fun e => by have h1 := hp1.ltB q g hg; have h2 := HJE.out; omega⟩
                  have HIA4 : Hid (InB (fun g => wr.heap.size ≤ g ∧ g ≠ J) (.slice aA1 args.length cA1) args.length) := fun q g hg => ⟨ia1 q g hg, fun e => by have h1 := ha1.ltB q g hg; have h2 := HJE.out; omega⟩
                  have HJ0 := Lib.hid hJ0
                  clear hJ0 hkJ hc1 hp1 ha1 ht1 hl1 ic1 ip1 ia1 hk4 HB HMX d0 d1 d2 d3 d4 d5 d6 d7 d8 d9
                  go_wp2_with fail
                  rw [HJE.out] at HJ0 ⊢
                  generalize w4.alloc _ = w4a at *
                  have hJz := HJ0.out.lt
                  refine HST.out.mono ?_
                  rintro e w5 ⟨rfl, ho5⟩
                  have hJ5 := HJ0.out.onl ho5 (fun q => by omega)
                  have y1 : w5.cell? ⟨J, 1, none⟩ = some (.string (bs text)) := hJ5.cell 1 _ rfl
                  have y2 := hJ5.free 1
                  have y3 := hJ5.lt
                  have ho9 := Only.setCell (w := w5) J 1 (.string (bs T))
                  have HJ9 : Hid (Blk (w5.setCell ⟨J, 1, none⟩ (.string (bs T))) J 51 #[.int .i64 kind, .string (bs T), .string (bs dest), .string (bs title), .string (bs id), .slice aC1 cls.length cC1, .slice aP1 prs.length cP1, .slice aA1 args.length cA1, .slice aT1 cits.length cT1, .slice aK1 zs.length cK1]) := hJ5.set 1 _
                  have HKB : Hid (Kept wB (w5.setCell ⟨J, 1, none⟩ (.string (bs T)))) := (HKJ.out.trans' (ho5.below HKJ.out.size (fun i q => q.1))).trans' (ho9.below (HKJ.out.trans' (ho5.below HKJ.out.size (fun i q => q.1))).size (fun i q => by omega))
                  have HK9 := Lib.hid (HKW.out.trans HKB.out)
                  have HG9 := Lib.hid (HGW.out.kept (inlK n) HKB.out)
                  have hin : ∀ g, wr.heap.size ≤ g → w.heap.size ≤ g ∧ (Value.slice ar ys.length cr).ownBlock ≠ some g := fun g hg => ⟨by omega, fun q => by have := (HGW.out.blk g q).2; omega⟩
                  have hne : ∀ g, wr.heap.size ≤ g → ¬ (wB.heap.size ≤ g ∧ g < wr.heap.size) := fun g q r => by omega
                  have HIC9 : Hid (InB (fun g => wr.heap.size ≤ g ∧ g ≠ J) (.slice aC1 cls.length cC1) cls.length) := HIC4.out
                  have HIP9 : Hid (InB (fun g => wr.heap.size ≤ g ∧ g ≠ J) (.slice aP1 prs.length cP1) prs.length) := HIP4.out
                  have HIA9 : Hid (InB (fun g => wr.heap.size ≤ g ∧ g ≠ J) (.slice aA1 args.length cA1) args.length) := HIA4.out
                  have HT9 : Hid (Cits (fun g => wr.heap.size ≤ g) (w5.setCell ⟨J, 1, none⟩ (.string (bs T))) (.slice aT1 cits.length cT1) cits) := ((HT4.out.sam (S' := fun g => wr.heap.size ≤ g ∧ g ≠ J) (Sam.only ho5 (fun g _ hs q => hne g hs.1 q)) (fun _ _ q => q)).sam (S' := fun g => wr.heap.size ≤ g ∧ g ≠ J) (Sam.only ho9 (fun g _ hs q => hs.2 q)) (fun _ _ q => q)).sam (fun _ _ _ => rfl) (fun _ _ q => q.1)
                  have HL9 : Hid (Lns (fun g => wr.heap.size ≤ g) n (w5.setCell ⟨J, 1, none⟩ (.string (bs T))) (.slice aK1 zs.length cK1) zs) := ((HL4.out.sam (S' := fun g => wr.heap.size ≤ g ∧ g ≠ J) (Sam.only ho5 (fun g _ hs q => hne g hs.1 q)) (fun _ _ q => q)).sam (S' := fun g => wr.heap.size ≤ g ∧ g ≠ J) (Sam.only ho9 (fun g _ hs q => hs.2 q)) (fun _ _ q => q)).mono (fun _ _ q => q.1)
                  have HYY : Hid (InlK n (fun g => w.heap.size ≤ g ∧ (Value.slice ar ys.length cr).ownBlock ≠ some g) (w5.setCell ⟨J, 1, none⟩ (.string (bs T))) [.int .i64 kind, .string (bs T), .string (bs dest), .string (bs title), .string (bs id), .slice aC1 cls.length cC1, .slice aP1 prs.length cP1, .slice aA1 args.length cA1, .slice aT1 cits.length cT1, .slice aK1 zs.length cK1] (Inl.mk kind T dest title id cls prs args cits zs)) :=
                    ⟨_, _, _, _, _, rfl, ⟨(HC4.out.onlS HIC.out ho5 (fun g _ hs q => hne g hs q)).onlS (HIC9).out ho9 (fun g _ hs q => hs.2 q), HIC.out.mono (fun g _ _ q => hin g q)⟩, ⟨(HP4.out.onlS HIP.out ho5 (fun g _ hs q => hne g hs q)).onlS HIP9.out ho9 (fun g _ hs q => hs.2 q), HIP.out.mono (fun g _ _ q => hin g q)⟩, ⟨(HA4.out.onlS HIA.out ho5 (fun g _ hs q => hne g hs q)).onlS HIA9.out ho9 (fun g _ hs q => hs.2 q), HIA.out.mono (fun g _ _ q => hin g q)⟩, HT9.out.sam (fun _ _ _ => rfl) (fun g _ q => hin g q), HL9.out.sam (fun _ _ _ => rfl) (fun g _ q => hin g q)⟩
                  have jc0 : (w5.setCell ⟨J, 1, none⟩ (.string (bs T))).cell? ⟨J, 0, none⟩ = some (.int .i64 kind) := HJ9.out.cell 0 _ rfl
                  have jc1 : (w5.setCell ⟨J, 1, none⟩ (.string (bs T))).cell? ⟨J, 1, none⟩ = some (.string (bs T)) := HJ9.out.cell 1 _ rfl
                  have jc2 : (w5.setCell ⟨J, 1, none⟩ (.string (bs T))).cell? ⟨J, 2, none⟩ = some (.string (bs dest)) := HJ9.out.cell 2 _ rfl
                  have jc3 : (w5.setCell ⟨J, 1, none⟩ (.string (bs T))).cell? ⟨J, 3, none⟩ = some (.string (bs title)) := HJ9.out.cell 3 _ rfl
                  have jc4 : (w5.setCell ⟨J, 1, none⟩ (.string (bs T))).cell? ⟨J, 4, none⟩ = some (.string (bs id)) := HJ9.out.cell 4 _ rfl
                  have jc5 : (w5.setCell ⟨J, 1, none⟩ (.string (bs T))).cell? ⟨J, 5, none⟩ = some (.slice aC1 cls.length cC1) := HJ9.out.cell 5 _ rfl
                  have jc6 : (w5.setCell ⟨J, 1, none⟩ (.string (bs T))).cell? ⟨J, 6, none⟩ = some (.slice aP1 prs.length cP1) := HJ9.out.cell 6 _ rfl
                  have jc7 : (w5.setCell ⟨J, 1, none⟩ (.string (bs T))).cell? ⟨J, 7, none⟩ = some (.slice aA1 args.length cA1) := HJ9.out.cell 7 _ rfl
                  have jc8 : (w5.setCell ⟨J, 1, none⟩ (.string (bs T))).cell? ⟨J, 8, none⟩ = some (.slice aT1 cits.length cT1) := HJ9.out.cell 8 _ rfl
                  have jc9 : (w5.setCell ⟨J, 1, none⟩ (.string (bs T))).cell? ⟨J, 9, none⟩ = some (.slice aK1 zs.length cK1) := HJ9.out.cell 9 _ rfl
                  clear ho5 ho9 hJ5 HKB HKJ HC4 HP4 HA4 HT4 HL4 HT9 HL9 HIC9 HIP9 HIA9 HIC HIP HIA HJ0 HST hin hne
                  have hka := kept_alloc (w5.setCell ⟨J, 1, none⟩ (.string (bs T))) (.cells #[.int .i64 kind, .string (bs T), .string (bs dest), .string (bs title), .string (bs id), .slice aC1 cls.length cC1, .slice aP1 prs.length cP1, .slice aA1 args.length cA1, .slice aT1 cits.length cT1, .slice aK1 zs.length cK1] 51)
                  have HG2 := Lib.hid (HG9.out.kept (inlK n) hka)
                  have HROW := Lib.hid (Blk.new (w5.setCell ⟨J, 1, none⟩ (.string (bs T))) 51 #[.int .i64 kind, .string (bs T), .string (bs dest), .string (bs title), .string (bs id), .slice aC1 cls.length cC1, .slice aP1 prs.length cP1, .slice aA1 args.length cA1, .slice aT1 cits.length cT1, .slice aK1 zs.length cK1])
                  (try rw [size_setCell] at HROW)
                  have HYZ := Lib.hid ((inlK n).sam HYY.out (Sam.kept hka) (fun _ _ q => q))
                  have HKA := Lib.hid (HK9.out.trans hka)
                  have hbz : w.heap.size ≤ ((w5.setCell ⟨J, 1, none⟩ (.string (bs T))).alloc (.cells #[.int .i64 kind, .string (bs T), .string (bs dest), .string (bs title), .string (bs id), .slice aC1 cls.length cC1, .slice aP1 prs.length cP1, .slice aA1 args.length cA1, .slice aT1 cits.length cT1, .slice aK1 zs.length cK1] 51)).heap.size := HKA.out.size
                  clear hka
                  go_wp2_with (at_builtin; refine holdQ ?_)
                  refine Lib.hid ?_
                  refine wpList_append_out (inlK n) rfl (.tmp 68) (.tmp 70) 36 rfl i0 _ 192 Tryz.underlying36 hi hz0 hz1 hz2 rfl (by omega) (by rfl) HG2.out w5.heap.size _ (Inl.mk kind T dest title id cls prs args cits zs) (by rfl) (fun j u hu => HROW.out.cell j u (by rw [← Array.getElem?_toList]; exact hu)) rfl HYZ.out (by unfold maxLen; omega) (by omega) hbz _ rfl ?_
                  intro g7 c7' w17 hout7 hgrow7 hat7 hlt7
                  have HO7 := Lib.hid hout7
                  have HK17 : Hid (Kept w w17) := HKA.out.trans' ((Only.grown hgrow7).below HKA.out.size (fun i q => (HG2.out.blk i q.symm).1))
                  clear hout7 hgrow7 hat7 hlt7 HG2 HROW HYZ HKA HYY hbz
                  go_wp2_with fail
                  go_roundw
                  case rel => exact ⟨k2, ys ++ [Inl.mk kind T dest title id cls prs args cits zs], by omega, by go_num, by rw [List.length_append]; simp; omega, HO7.out, HK17.out⟩
                  case measure => simp [intOf]; omega
            · have hkl : k < k2 := by omega
              rcases hf with rfl | ⟨j, hj, rfl, hTn⟩
              · have HGX := Lib.hid (HGW.out.kept (inlK n) HKT.out)
                have HKX := Lib.hid (HKW.out.trans HKT.out)
                clear HB HKT
                go_wp2_with fail
                go_roundw
                case rel => exact ⟨k2, ys, hk2, by go_num, by omega, HGX.out, HKX.out⟩
                case measure => simp [intOf]; omega
              · skip
                obtain ⟨x, hx⟩ : ∃ x, xs[j]? = some x := ⟨_, List.getElem?_eq_getElem (by omega)⟩
                have hfit := (okIL_at HOK.out x (List.mem_of_getElem? hx)).fit
                obtain ⟨g', o', vC, vP, vA, vT, vK, he, hgg', -, -, -, ⟨d0, d1, d2, d3, d4, d5, d6, d7, d8, d9⟩, -, ⟨hC, iC⟩, ⟨hPP, iP⟩, ⟨hA, iA⟩, hTT, hK⟩ := Lns.at_ (HV.out.kept (HKW.out.trans HKT.out)) j x hx
                cases he
                obtain ⟨kind, text, dest, title, id, cls, prs, args, cits, kids⟩ := x
                simp only [Inl.kind, Inl.text, Inl.dest, Inl.title, Inl.id, Inl.cls, Inl.prs, Inl.args, Inl.cits, Inl.kids] at d0 d1 d2 d3 d4 hC hPP hA hTT hK hfit
                obtain ⟨⟨f1, f2, f3, f4, f5, f6, f7, f8, f9⟩, f10⟩ := hfit
                obtain ⟨aC, cC, rfl, lC⟩ := hC.shape
                obtain ⟨aP, cP, rfl, lP⟩ := hPP.shape
                obtain ⟨aA, cA, rfl, lA⟩ := hA.shape
                obtain ⟨aT, cT, rfl, lT⟩ := hTT.form
                obtain ⟨aK, cK, rfl, lK⟩ := hK.form
                have HMX := Lib.hid (HMI.out kind text dest title id cls prs args cits kids _ _ _ _ _ wr hC hPP hA hTT hK (by omega) (by omega) (by omega) (by omega) (by omega) f10)
                clear iC iP iA hC hPP hA hTT hK f10 hx
                go_wp2_with fail
                refine HMX.out.mono ?_
                rintro e w4 ⟨cs, zs, rfl, hI, hk4⟩
                obtain ⟨vC1, vP1, vA1, vT1, vK1, rfl, ⟨hc1, ic1⟩, ⟨hp1, ip1⟩, ⟨ha1, ia1⟩, ht1, hl1⟩ := hI
                simp only [Inl.cls, Inl.prs, Inl.args, Inl.cits, Inl.kids, Inl.kind, Inl.text, Inl.dest, Inl.title, Inl.id] at hc1 ic1 hp1 ip1 ha1 ia1 ht1 hl1
                obtain ⟨aC1, cC1, rfl, lC1⟩ := hc1.shape
                obtain ⟨aP1, cP1, rfl, lP1⟩ := hp1.shape
                obtain ⟨aA1, cA1, rfl, lA1⟩ := ha1.shape
                obtain ⟨aT1, cT1, rfl, lT1⟩ := ht1.form
                obtain ⟨aK1, cK1, rfl, lK1⟩ := hl1.form
                dsimp only [inlC, Inl.kind, Inl.text, Inl.dest, Inl.title, Inl.id]
                have hwr : wB.heap.size ≤ wr.heap.size := HKT.out.size
                have hJ0 := Blk.new w4 51 #[.int .i64 kind, .string (bs text), .string (bs dest), .string (bs title), .string (bs id), .slice aC1 cls.length cC1, .slice aP1 prs.length cP1, .slice aA1 args.length cA1, .slice aT1 cits.length cT1, .slice aK1 zs.length cK1]
                have hkJ := kept_alloc w4 (.cells #[.int .i64 kind, .string (bs text), .string (bs dest), .string (bs title), .string (bs id), .slice aC1 cls.length cC1, .slice aP1 prs.length cP1, .slice aA1 args.length cA1, .slice aT1 cits.length cT1, .slice aK1 zs.length cK1] 51)
                obtain ⟨J, HJE⟩ : ∃ J, Hid (w4.heap.size = J) := ⟨_, rfl⟩
                have hrJ : wr.heap.size ≤ J := by have h1 := hk4.size; have h2 := HJE.out; omega
                have HST := Lib.hid (bld_str wB.heap.size wB.heap.size T wr (w4.alloc (.cells #[.int .i64 kind, .string (bs text), .string (bs dest), .string (bs title), .string (bs id), .slice aC1 cls.length cC1, .slice aP1 prs.length cP1, .slice aA1 args.length cA1, .slice aT1 cits.length cT1, .slice aK1 zs.length cK1] 51)) HB.out (hk4.trans hkJ) hTn)
                have HKJ := Lib.hid ((HKT.out.trans hk4).trans hkJ)
                have HC4 := Lib.hid (hc1.kept hkJ)
                have HP4 := Lib.hid (hp1.kept hkJ)
                have HA4 := Lib.hid (ha1.kept hkJ)
                have HT4 := Lib.hid (ht1.sam (S' := fun g => wr.heap.size ≤ g ∧ g ≠ J) (Sam.kept hkJ) (fun g q r => ⟨r, fun e => by have := HJE.out; omega⟩))
                have HL4 := Lib.hid (hl1.sam (S' := fun g => wr.heap.size ≤ g ∧ g ≠ J) (Sam.kept hkJ) (fun g q r => ⟨r, fun e => by have := HJE.out; omega⟩))
                have HIC := Lib.hid ic1
                have HIP := Lib.hid ip1
                have HIA := Lib.hid ia1
                have HIC4 : Hid (InB (fun g => wr.heap.size ≤ g ∧ g ≠ J) (.slice aC1 cls.length cC1) cls.length) := fun q g hg => ⟨ic1 q g hg, fun e => by have h1 := hc1.ltB q g hg; have h2 := HJE.out; omega⟩
                have HIP4 : Hid (InB (fun g => wr.heap.size ≤ g ∧ g ≠ J) (.slice aP1 prs.length cP1) prs.length) := fun q g hg => ⟨ip1 q g hg, fun e => by have h1 := hp1.ltB q g hg; have h2 := HJE.out; omega⟩
                have HIA4 : Hid (InB (fun g => wr.heap.size ≤ g ∧ g ≠ J) (.slice aA1 args.length cA1) args.length) := fun q g hg => ⟨ia1 q g hg, fun e => by have h1 := ha1.ltB q g hg; have h2 := HJE.out; omega⟩
                have HJ0 := Lib.hid hJ0
                clear hJ0 hkJ hc1 hp1 ha1 ht1 hl1 ic1 ip1 ia1 hk4 HB HMX d0 d1 d2 d3 d4 d5 d6 d7 d8 d9
                go_wp2_with fail
                rw [HJE.out] at HJ0 ⊢
                generalize w4.alloc _ = w4a at *
                have hJz := HJ0.out.lt
                refine HST.out.mono ?_
                rintro e w5 ⟨rfl, ho5⟩
                have hJ5 := HJ0.out.onl ho5 (fun q => by omega)
                have y1 : w5.cell? ⟨J, 1, none⟩ = some (.string (bs text)) := hJ5.cell 1 _ rfl
                have y2 := hJ5.free 1
                have y3 := hJ5.lt
                have ho9 := Only.setCell (w := w5) J 1 (.string (bs T))
                have HJ9 : Hid (Blk (w5.setCell ⟨J, 1, none⟩ (.string (bs T))) J 51 #[.int .i64 kind, .string (bs T), .string (bs dest), .string (bs title), .string (bs id), .slice aC1 cls.length cC1, .slice aP1 prs.length cP1, .slice aA1 args.length cA1, .slice aT1 cits.length cT1, .slice aK1 zs.length cK1]) := hJ5.set 1 _
                have HKB : Hid (Kept wB (w5.setCell ⟨J, 1, none⟩ (.string (bs T)))) := (HKJ.out.trans' (ho5.below HKJ.out.size (fun i q => q.1))).trans' (ho9.below (HKJ.out.trans' (ho5.below HKJ.out.size (fun i q => q.1))).size (fun i q => by omega))
                have HK9 := Lib.hid (HKW.out.trans HKB.out)
                have HG9 := Lib.hid (HGW.out.kept (inlK n) HKB.out)
                have hin : ∀ g, wr.heap.size ≤ g → w.heap.size ≤ g ∧ (Value.slice ar ys.length cr).ownBlock ≠ some g := fun g hg => ⟨by omega, fun q => by have := (HGW.out.blk g q).2; omega⟩
                have hne : ∀ g, wr.heap.size ≤ g → ¬ (wB.heap.size ≤ g ∧ g < wr.heap.size) := fun g q r => by omega
                have HIC9 : Hid (InB (fun g => wr.heap.size ≤ g ∧ g ≠ J) (.slice aC1 cls.length cC1) cls.length) := HIC4.out
                have HIP9 : Hid (InB (fun g => wr.heap.size ≤ g ∧ g ≠ J) (.slice aP1 prs.length cP1) prs.length) := HIP4.out
                have HIA9 : Hid (InB (fun g => wr.heap.size ≤ g ∧ g ≠ J) (.slice aA1 args.length cA1) args.length) := HIA4.out
                have HT9 : Hid (Cits (fun g => wr.heap.size ≤ g) (w5.setCell ⟨J, 1, none⟩ (.string (bs T))) (.slice aT1 cits.length cT1) cits) := ((HT4.out.sam (S' := fun g => wr.heap.size ≤ g ∧ g ≠ J) (Sam.only ho5 (fun g _ hs q => hne g hs.1 q)) (fun _ _ q => q)).sam (S' := fun g => wr.heap.size ≤ g ∧ g ≠ J) (Sam.only ho9 (fun g _ hs q => hs.2 q)) (fun _ _ q => q)).sam (fun _ _ _ => rfl) (fun _ _ q => q.1)
                have HL9 : Hid (Lns (fun g => wr.heap.size ≤ g) n (w5.setCell ⟨J, 1, none⟩ (.string (bs T))) (.slice aK1 zs.length cK1) zs) := ((HL4.out.sam (S' := fun g => wr.heap.size ≤ g ∧ g ≠ J) (Sam.only ho5 (fun g _ hs q => hne g hs.1 q)) (fun _ _ q => q)).sam (S' := fun g => wr.heap.size ≤ g ∧ g ≠ J) (Sam.only ho9 (fun g _ hs q => hs.2 q)) (fun _ _ q => q)).mono (fun _ _ q => q.1)
                have HYY : Hid (InlK n (fun g => w.heap.size ≤ g ∧ (Value.slice ar ys.length cr).ownBlock ≠ some g) (w5.setCell ⟨J, 1, none⟩ (.string (bs T))) [.int .i64 kind, .string (bs T), .string (bs dest), .string (bs title), .string (bs id), .slice aC1 cls.length cC1, .slice aP1 prs.length cP1, .slice aA1 args.length cA1, .slice aT1 cits.length cT1, .slice aK1 zs.length cK1] (Inl.mk kind T dest title id cls prs args cits zs)) :=
                  ⟨_, _, _, _, _, rfl, ⟨(HC4.out.onlS HIC.out ho5 (fun g _ hs q => hne g hs q)).onlS (HIC9).out ho9 (fun g _ hs q => hs.2 q), HIC.out.mono (fun g _ _ q => hin g q)⟩, ⟨(HP4.out.onlS HIP.out ho5 (fun g _ hs q => hne g hs q)).onlS HIP9.out ho9 (fun g _ hs q => hs.2 q), HIP.out.mono (fun g _ _ q => hin g q)⟩, ⟨(HA4.out.onlS HIA.out ho5 (fun g _ hs q => hne g hs q)).onlS HIA9.out ho9 (fun g _ hs q => hs.2 q), HIA.out.mono (fun g _ _ q => hin g q)⟩, HT9.out.sam (fun _ _ _ => rfl) (fun g _ q => hin g q), HL9.out.sam (fun _ _ _ => rfl) (fun g _ q => hin g q)⟩
                have jc0 : (w5.setCell ⟨J, 1, none⟩ (.string (bs T))).cell? ⟨J, 0, none⟩ = some (.int .i64 kind) := HJ9.out.cell 0 _ rfl
                have jc1 : (w5.setCell ⟨J, 1, none⟩ (.string (bs T))).cell? ⟨J, 1, none⟩ = some (.string (bs T)) := HJ9.out.cell 1 _ rfl
                have jc2 : (w5.setCell ⟨J, 1, none⟩ (.string (bs T))).cell? ⟨J, 2, none⟩ = some (.string (bs dest)) := HJ9.out.cell 2 _ rfl
                have jc3 : (w5.setCell ⟨J, 1, none⟩ (.string (bs T))).cell? ⟨J, 3, none⟩ = some (.string (bs title)) := HJ9.out.cell 3 _ rfl
                have jc4 : (w5.setCell ⟨J, 1, none⟩ (.string (bs T))).cell? ⟨J, 4, none⟩ = some (.string (bs id)) := HJ9.out.cell 4 _ rfl
                have jc5 : (w5.setCell ⟨J, 1, none⟩ (.string (bs T))).cell? ⟨J, 5, none⟩ = some (.slice aC1 cls.length cC1) := HJ9.out.cell 5 _ rfl
                have jc6 : (w5.setCell ⟨J, 1, none⟩ (.string (bs T))).cell? ⟨J, 6, none⟩ = some (.slice aP1 prs.length cP1) := HJ9.out.cell 6 _ rfl
                have jc7 : (w5.setCell ⟨J, 1, none⟩ (.string (bs T))).cell? ⟨J, 7, none⟩ = some (.slice aA1 args.length cA1) := HJ9.out.cell 7 _ rfl
                have jc8 : (w5.setCell ⟨J, 1, none⟩ (.string (bs T))).cell? ⟨J, 8, none⟩ = some (.slice aT1 cits.length cT1) := HJ9.out.cell 8 _ rfl
                have jc9 : (w5.setCell ⟨J, 1, none⟩ (.string (bs T))).cell? ⟨J, 9, none⟩ = some (.slice aK1 zs.length cK1) := HJ9.out.cell 9 _ rfl
                clear ho5 ho9 hJ5 HKB HKJ HC4 HP4 HA4 HT4 HL4 HT9 HL9 HIC9 HIP9 HIA9 HIC HIP HIA HJ0 HST hin hne
                have hka := kept_alloc (w5.setCell ⟨J, 1, none⟩ (.string (bs T))) (.cells #[.int .i64 kind, .string (bs T), .string (bs dest), .string (bs title), .string (bs id), .slice aC1 cls.length cC1, .slice aP1 prs.length cP1, .slice aA1 args.length cA1, .slice aT1 cits.length cT1, .slice aK1 zs.length cK1] 51)
                have HG2 := Lib.hid (HG9.out.kept (inlK n) hka)
                have HROW := Lib.hid (Blk.new (w5.setCell ⟨J, 1, none⟩ (.string (bs T))) 51 #[.int .i64 kind, .string (bs T), .string (bs dest), .string (bs title), .string (bs id), .slice aC1 cls.length cC1, .slice aP1 prs.length cP1, .slice aA1 args.length cA1, .slice aT1 cits.length cT1, .slice aK1 zs.length cK1])
                (try rw [size_setCell] at HROW)
                have HYZ := Lib.hid ((inlK n).sam HYY.out (Sam.kept hka) (fun _ _ q => q))
                have HKA := Lib.hid (HK9.out.trans hka)
                have hbz : w.heap.size ≤ ((w5.setCell ⟨J, 1, none⟩ (.string (bs T))).alloc (.cells #[.int .i64 kind, .string (bs T), .string (bs dest), .string (bs title), .string (bs id), .slice aC1 cls.length cC1, .slice aP1 prs.length cP1, .slice aA1 args.length cA1, .slice aT1 cits.length cT1, .slice aK1 zs.length cK1] 51)).heap.size := HKA.out.size
                clear hka
                go_wp2_with (at_builtin; refine holdQ ?_)
                refine Lib.hid ?_
                refine wpList_append_out (inlK n) rfl (.tmp 68) (.tmp 70) 36 rfl i0 _ 192 Tryz.underlying36 hi hz0 hz1 hz2 rfl (by omega) (by rfl) HG2.out w5.heap.size _ (Inl.mk kind T dest title id cls prs args cits zs) (by rfl) (fun j u hu => HROW.out.cell j u (by rw [← Array.getElem?_toList]; exact hu)) rfl HYZ.out (by unfold maxLen; omega) (by omega) hbz _ rfl ?_
                intro g7 c7' w17 hout7 hgrow7 hat7 hlt7
                have HO7 := Lib.hid hout7
                have HK17 : Hid (Kept w w17) := HKA.out.trans' ((Only.grown hgrow7).below HKA.out.size (fun i q => (HG2.out.blk i q.symm).1))
                clear hout7 hgrow7 hat7 hlt7 HG2 HROW HYZ HKA HYY hbz
                go_wp2_with fail
                go_roundw
                case rel => exact ⟨k2, ys ++ [Inl.mk kind T dest title id cls prs args cits zs], by omega, by go_num, by rw [List.length_append]; simp; omega, HO7.out, HK17.out⟩
                case measure => simp [intOf]; omega
        · have hx' := hx
          obtain ⟨g, o, vC, vP, vA, vT, vK, rfl, hgg, hgS, -, -, ⟨d0, d1, d2, d3, d4, d5, d6, d7, d8, d9⟩, -, ⟨hC, iC⟩, ⟨hPP, iP⟩, ⟨hA, iA⟩, hTT, hK⟩ := Lns.at_ (HV.out.kept HKR.out) k x hx
          obtain ⟨kind, text, dest, title, id, cls, prs, args, cits, kids⟩ := x
          simp only [Inl.kind, Inl.text, Inl.dest, Inl.title, Inl.id, Inl.cls, Inl.prs, Inl.args, Inl.cits, Inl.kids] at d0 d1 d2 d3 d4 hC hPP hA hTT hK hfit hk1
          obtain ⟨⟨f1, f2, f3, f4, f5, f6, f7, f8, f9⟩, f10⟩ := hfit
          obtain ⟨aC, cC, rfl, lC⟩ := hC.shape
          obtain ⟨aP, cP, rfl, lP⟩ := hPP.shape
          obtain ⟨aA, cA, rfl, lA⟩ := hA.shape
          obtain ⟨aT, cT, rfl, lT⟩ := hTT.form
          obtain ⟨aK, cK, rfl, lK⟩ := hK.form
          have HMX := Lib.hid (HMI.out kind text dest title id cls prs args cits kids _ _ _ _ _ wr hC hPP hA hTT hK (by omega) (by omega) (by omega) (by omega) (by omega) f10)
          clear iC iP iA hC hPP hA hTT hK f10 hx hx'
          go_wp2_with fail
          refine HMX.out.mono ?_
          rintro e w4 ⟨cs, zs, rfl, hI, hk4⟩
          obtain ⟨vC1, vP1, vA1, vT1, vK1, rfl, ⟨hc1, ic1⟩, ⟨hp1, ip1⟩, ⟨ha1, ia1⟩, ht1, hl1⟩ := hI
          simp only [Inl.cls, Inl.prs, Inl.args, Inl.cits, Inl.kids, Inl.kind, Inl.text, Inl.dest, Inl.title, Inl.id] at hc1 ic1 hp1 ip1 ha1 ia1 ht1 hl1
          obtain ⟨aC1, cC1, rfl, lC1⟩ := hc1.shape
          obtain ⟨aP1, cP1, rfl, lP1⟩ := hp1.shape
          obtain ⟨aA1, cA1, rfl, lA1⟩ := ha1.shape
          obtain ⟨aT1, cT1, rfl, lT1⟩ := ht1.form
          obtain ⟨aK1, cK1, rfl, lK1⟩ := hl1.form
          dsimp only [inlC, Inl.kind, Inl.text, Inl.dest, Inl.title, Inl.id]
          have HG4 := Lib.hid (HGR.out.kept (inlK n) hk4)
          have HK4 := Lib.hid (HKR.out.trans hk4)
          have hrz : w.heap.size ≤ wr.heap.size := HKR.out.size
          have hin : ∀ g, wr.heap.size ≤ g → w.heap.size ≤ g ∧ (Value.slice ar ys.length cr).ownBlock ≠ some g := fun g hg => ⟨by omega, fun q => by have := (HGR.out.blk g q).2; omega⟩
          have HYY : Hid (InlK n (fun g => w.heap.size ≤ g ∧ (Value.slice ar ys.length cr).ownBlock ≠ some g) w4 [.int .i64 kind, .string (bs text), .string (bs dest), .string (bs title), .string (bs id), .slice aC1 cls.length cC1, .slice aP1 prs.length cP1, .slice aA1 args.length cA1, .slice aT1 cits.length cT1, .slice aK1 zs.length cK1] (Inl.mk kind text dest title id cls prs args cits zs)) :=
            ⟨_, _, _, _, _, rfl, ⟨hc1, ic1.mono (fun g _ _ q => hin g q)⟩, ⟨hp1, ip1.mono (fun g _ _ q => hin g q)⟩, ⟨ha1, ia1.mono (fun g _ _ q => hin g q)⟩, ht1.sam (fun _ _ _ => rfl) (fun g _ q => hin g q), hl1.sam (fun _ _ _ => rfl) (fun g _ q => hin g q)⟩
          clear hc1 ic1 hp1 ip1 ha1 ia1 ht1 hl1 hin hk4 HGR HKR HMX d0 d1 d2 d3 d4 d5 d6 d7 d8 d9
          have hka := kept_alloc w4 (.cells #[.int .i64 kind, .string (bs text), .string (bs dest), .string (bs title), .string (bs id), .slice aC1 cls.length cC1, .slice aP1 prs.length cP1, .slice aA1 args.length cA1, .slice aT1 cits.length cT1, .slice aK1 zs.length cK1] 51)
          have HG2 := Lib.hid (HG4.out.kept (inlK n) hka)
          have HROW := Lib.hid (Blk.new w4 51 #[.int .i64 kind, .string (bs text), .string (bs dest), .string (bs title), .string (bs id), .slice aC1 cls.length cC1, .slice aP1 prs.length cP1, .slice aA1 args.length cA1, .slice aT1 cits.length cT1, .slice aK1 zs.length cK1])
          have HYZ := Lib.hid ((inlK n).sam HYY.out (Sam.kept hka) (fun _ _ q => q))
          have HKA := Lib.hid (HK4.out.trans hka)
          have hbz : w.heap.size ≤ (w4.alloc (.cells #[.int .i64 kind, .string (bs text), .string (bs dest), .string (bs title), .string (bs id), .slice aC1 cls.length cC1, .slice aP1 prs.length cP1, .slice aA1 args.length cA1, .slice aT1 cits.length cT1, .slice aK1 zs.length cK1] 51)).heap.size := HKA.out.size
          clear hka
          go_wp2_with (at_builtin; refine holdQ ?_)
          refine Lib.hid ?_
          refine wpList_append_out (inlK n) rfl (.tmp 18) (.tmp 24) 36 rfl i0 _ 192 Tryz.underlying36 hi hz0 hz1 hz2 rfl (by omega) (by rfl) HG2.out w4.heap.size _ (Inl.mk kind text dest title id cls prs args cits zs) (by rfl) (fun j u hu => HROW.out.cell j u (by rw [← Array.getElem?_toList]; exact hu)) rfl HYZ.out (by unfold maxLen; omega) (by omega) hbz _ rfl ?_
          intro g7 c7' w17 hout7 hgrow7 hat7 hlt7
          have HO7 := Lib.hid hout7
          have HK17 : Hid (Kept w w17) := HKA.out.trans' ((Only.grown hgrow7).below HKA.out.size (fun i q => (HG2.out.blk i q.symm).1))
          clear hout7 hgrow7 hat7 hlt7 HG2 HROW HYZ HKA HYY hbz
          go_wp2_with fail
          go_roundw
          case rel => exact ⟨k + 1, ys ++ [Inl.mk kind text dest title id cls prs args cits zs], by omega, by go_num, by rw [List.length_append]; simp; omega, HO7.out, HK17.out⟩
          case measure => simp [intOf]; omega
      · obtain rfl : k = xs.length := by omega
        have HF := Lib.hid (HFIN.out _ ys wr HGR.out hyl HKR.out)
        clear HGR HKR
        go_wp2_with fail
        (try go_ret)
        exact HF.out
end Go.Proofs.YtnbhpmleboildaaGreatDoor

/- gloss.hasReference and linkTo. Conditions: lengths. -/
set_option linter.all false
namespace Go.Proofs.YtnbhpmleboildaaGreatDoor
open Go.RowKit

/-- A text as an inline, a link. -/
def textI (s : Bs) : Inl := .mk 1 s [] [] [] [] [] [] [] []
end Go.Proofs.YtnbhpmleboildaaGreatDoor
