/- The law StyleFills: any template filled for any source is the chapter's. No condition. -/
import Derived.Test.YtofeonnmoakbaaaGreatDoorK37
import Derived.Test.YtofeonnmoakbaaaGreatDoorK30

set_option linter.all false
namespace Go.Proofs.YtofeonnmoakbaaaGreatDoor
open Go.RowKit

set_option maxRecDepth 100000 in
set_option maxHeartbeats 12800000 in
theorem lsfill_any (t : Bs) (c : FilT) (vA vE vF : Value) (w : World) (hg : Gnd w) (hT : TabW w) (ht : t.length ≤ 9223372036854775807) (hA : Perss w vA c.author) (hE : Perss w vE c.editor) (hF : Prs w vF c.fields) (hf : FitC9 c) :
    Calls Tryz.prog 5 #[.string (bs t), caseV c vA vE vF] w fun e w' => e = .returned (.bool true) ∧ Kept w w' := by
  have HG := Lib.hid hg
  have HT := Lib.hid hT
  have HAW := Lib.hid (fun w h1 h2 => sawake_any w h1 h2)
  have HK0 := Lib.hid (kept_alloc w (.cells #[.string (bs c.key), .string (bs c.type), vA, vE, vF, .string (bs c.lang), .string (bs c.suffix), .int .i64 c.number, .int .i64 c.most] 38))
  have HB0 := Lib.hid (Blk.new w 38 #[.string (bs c.key), .string (bs c.type), vA, vE, vF, .string (bs c.lang), .string (bs c.suffix), .int .i64 c.number, .int .i64 c.most])
  have HSH := Lib.hid (fun w h1 h2 h3 => sshort_any c vA vE vF w h1 h2 h3 hf.1)
  unfold ShortP at HSH
  have HFC := Lib.hid hf
  obtain ⟨-, fl, fs, fn, fm⟩ := hf
  have HA := Lib.hid hA
  have HE := Lib.hid hE
  have HF := Lib.hid hF
  clear hg hT hA hE hF
  by_cases g1 : 300 < t.length
  · go_enter Tryz.func5, Tryz.ntmps5
    go_wp2_with fail
    refine (HAW.out _ (HG.out.kept HK0.out) (HT.out.kept HK0.out)).mono ?_
    rintro e w9 ⟨rfl, hk9⟩
    have HK9 := Lib.hid (HK0.out.trans hk9)
    clear hk9
    go_wp2_with fail
    go_ret
    exact ⟨rfl, HK9.out⟩
  go_enter Tryz.func5, Tryz.ntmps5
  go_wp2_with fail
  generalize w.alloc _ = w0 at *
  obtain ⟨B, HBB⟩ : ∃ B, Hid (w.heap.size = B) := ⟨_, rfl⟩
  rw [HBB.out] at HB0 ⊢
  refine (HSH.out _ (HA.out.kept HK0.out) (HE.out.kept HK0.out) (HF.out.kept HK0.out)).mono ?_
  rintro e w1 ⟨b, rfl, hb, hk1⟩
  have HSB := Lib.hid hb
  have HK1 := Lib.hid (HK0.out.trans hk1)
  have HB1 := Lib.hid (HB0.out.kept hk1)
  clear hb hk1 HK0 HB0 HSH
  cases b with
  | false =>
    go_wp2_with fail
    refine (HAW.out _ (HG.out.kept HK1.out) (HT.out.kept HK1.out)).mono ?_
    rintro e w9 ⟨rfl, hk9⟩
    have HK9 := Lib.hid (HK1.out.trans hk9)
    clear hk9
    go_wp2_with fail
    go_ret
    exact ⟨rfl, HK9.out⟩
  | true =>
  have HSS := Lib.hid (HSB.out rfl)
  clear HSB
  have c5 : w1.cell? ⟨B, 5, none⟩ = some (.string (bs c.lang)) := HB1.out.cell 5 _ rfl
  have c6 : w1.cell? ⟨B, 6, none⟩ = some (.string (bs c.suffix)) := HB1.out.cell 6 _ rfl
  have z1 := HB1.out.lt
  by_cases g2 : 100 < c.suffix.length
  · go_wp2_with fail
    refine (HAW.out _ (HG.out.kept HK1.out) (HT.out.kept HK1.out)).mono ?_
    rintro e w9 ⟨rfl, hk9⟩
    have HK9 := Lib.hid (HK1.out.trans hk9)
    clear hk9
    go_wp2_with fail
    go_ret
    exact ⟨rfl, HK9.out⟩
  by_cases g3 : 100 < c.lang.length
  · go_wp2_with fail
    refine (HAW.out _ (HG.out.kept HK1.out) (HT.out.kept HK1.out)).mono ?_
    rintro e w9 ⟨rfl, hk9⟩
    have HK9 := Lib.hid (HK1.out.trans hk9)
    clear hk9
    go_wp2_with fail
    go_ret
    exact ⟨rfl, HK9.out⟩
  have HFV := Lib.hid (short_fit HSS.out HFC.out (by omega))
  have HFI := Lib.hid (fun w h1 h2 h3 h4 h5 => sfill_any c t vA vE vF (.slice none 0 0) (mostY c.most) w rfl rfl h1 h2 (by omega) HFV.out h3 h4 h5)
  have HRF := Lib.hid (fun w h3 h4 h5 => rfil31_any c t vA vE vF (.slice none 0 0) (mostY c.most) w rfl rfl (by omega) HFV.out h3 h4 h5)
  clear HFV HFC HSS
  generalize fillS c t = T at *
  generalize splE t = E at *
  have c8 : w1.cell? ⟨B, 8, none⟩ = some (.int .i64 c.most) := HB1.out.cell 8 _ rfl
  have HN1 := Lib.hid (Blk.new w1 24 #[.string (bs []), .bool false, .string (bs []), .string (bs []), .string (bs []), .string (bs []), .string (bs []), .string (bs []), .int .i64 0, .slice none 0 0])
  have HKN1 := Lib.hid (kept_alloc w1 (.cells #[.string (bs []), .bool false, .string (bs []), .string (bs []), .string (bs []), .string (bs []), .string (bs []), .string (bs []), .int .i64 0, .slice none 0 0] 24))
  go_wp2_with (first
    | (refine wpList_store_blk rfl 24 (.tmp 5) (.tmp 34) (by rfl) w1.heap.size _ (styCells (.slice none 0 0) (mostY c.most)) (by rfl) (by rfl) HN1.out rfl Tryz.sizeSty (sty_one _ rfl (mostY c.most)) ?_; intro w2 hb2 ho2; have HKA := Lib.hid (only_kept HKN1.out ho2 (Nat.le_refl _)); have HY2 := Lib.hid hb2; have HK2 := Lib.hid (HK1.out.trans HKA.out); have HB2 := Lib.hid (HB1.out.kept HKA.out); have d0 : w2.cell? ⟨B, 0, none⟩ = some (.string (bs c.key)) := HB2.out.cell 0 _ rfl; have d1 : w2.cell? ⟨B, 1, none⟩ = some (.string (bs c.type)) := HB2.out.cell 1 _ rfl; have d2 : w2.cell? ⟨B, 2, none⟩ = some vA := HB2.out.cell 2 _ rfl; have d3 : w2.cell? ⟨B, 3, none⟩ = some vE := HB2.out.cell 3 _ rfl; have d4 : w2.cell? ⟨B, 4, none⟩ = some vF := HB2.out.cell 4 _ rfl; have d5 : w2.cell? ⟨B, 5, none⟩ = some (.string (bs c.lang)) := HB2.out.cell 5 _ rfl; have d6 : w2.cell? ⟨B, 6, none⟩ = some (.string (bs c.suffix)) := HB2.out.cell 6 _ rfl; have d7 : w2.cell? ⟨B, 7, none⟩ = some (.int .i64 c.number) := HB2.out.cell 7 _ rfl; have zB := HB2.out.lt; clear hb2 ho2 HKA)
    | (refine wpList_load_blk (by rfl) 24 (.tmp 5) (by rfl) w1.heap.size _ (by rfl) HY2.out _ Tryz.underlying24 rfl Tryz.sizeSty ?_))
  refine (HFI.out _ (HG.out.kept HK2.out) (HT.out.kept HK2.out) (HA.out.kept HK2.out) (HE.out.kept HK2.out) (HF.out.kept HK2.out)).mono ?_
  rintro e w3 ⟨rfl, hk3⟩
  have HK3 := Lib.hid (HK2.out.trans hk3)
  have HY3 := Lib.hid (HY2.out.kept hk3)
  have HB3 := Lib.hid (HB2.out.kept hk3)
  have f0 : w3.cell? ⟨B, 0, none⟩ = some (.string (bs c.key)) := HB3.out.cell 0 _ rfl
  have f1 : w3.cell? ⟨B, 1, none⟩ = some (.string (bs c.type)) := HB3.out.cell 1 _ rfl
  have f2 : w3.cell? ⟨B, 2, none⟩ = some vA := HB3.out.cell 2 _ rfl
  have f3 : w3.cell? ⟨B, 3, none⟩ = some vE := HB3.out.cell 3 _ rfl
  have f4 : w3.cell? ⟨B, 4, none⟩ = some vF := HB3.out.cell 4 _ rfl
  have f5 : w3.cell? ⟨B, 5, none⟩ = some (.string (bs c.lang)) := HB3.out.cell 5 _ rfl
  have f6 : w3.cell? ⟨B, 6, none⟩ = some (.string (bs c.suffix)) := HB3.out.cell 6 _ rfl
  have f7 : w3.cell? ⟨B, 7, none⟩ = some (.int .i64 c.number) := HB3.out.cell 7 _ rfl
  have z3 := HB3.out.lt
  clear hk3 d0 d1 d2 d3 d4 d5 d6 d7 zB HB2 HY2 HK2
  go_wp2_with (refine wpList_load_blk (by rfl) 24 (.tmp 5) (by rfl) w1.heap.size _ (by rfl) HY3.out _ Tryz.underlying24 rfl Tryz.sizeSty ?_)
  refine (HRF.out _ (HA.out.kept HK3.out) (HE.out.kept HK3.out) (HF.out.kept HK3.out)).mono ?_
  rintro e w4 ⟨rfl, hk4⟩
  have HK4 := Lib.hid (HK3.out.trans hk4)
  clear hk4 f0 f1 f2 f3 f4 f5 f6 f7 z3 HB3 HY3 HK3
  go_wp2_with fail
  refine (HAW.out _ (HG.out.kept HK4.out) (HT.out.kept HK4.out)).mono ?_
  rintro e w5 ⟨rfl, hk5⟩
  have HK5 := Lib.hid (HK4.out.trans hk5)
  clear hk5
  go_wp2_with fail
  go_ret
  exact ⟨rfl, HK5.out⟩
end Go.Proofs.YtofeonnmoakbaaaGreatDoor
