/- index.termOf: the term of a mark. Conditions: lengths. -/
import Derived.Test.YtnbhpmleboildaaGreatDoorY10
import Derived.Test.YtnbhpmleboildaaGreatDoorY07
import Derived.Test.YtnbhpmleboildaaGreatDoorShelf
import Derived.Test.YtnbhpmleboildaaGreatDoorY08
import Derived.Test.YtnbhpmleboildaaGreatDoorY02
import Derived.Test.YtnbhpmleboildaaGreatDoorY01
import Derived.Test.YtnbhpmleboildaaGreatDoorY04
import Derived.Lib.LaidTab
import Derived.Shelf.Strconv.Itoa3
import Derived.Lib.AppendIntMem

set_option linter.all false
namespace Go.Proofs.YtnbhpmleboildaaGreatDoor
open Go.RowKit

set_option maxRecDepth 100000 in
set_option maxHeartbeats 1600000 in
theorem itrim_any (l : Bs) (w : World) (hl : l.length ≤ 1000000000) : Calls Tryz.prog 42 #[.string (bs l)] w fun e w' => e = .returned (.string (bs (trimI l))) ∧ Kept w w' := by
  have HT := Lib.hid (Tryz.strings_Trim_one (bs l) 32 (by decide) w (by simp; omega))
  simp only [bs_data] at HT
  unfold trimI
  generalize Lib.trimB l 32 = t at *
  go_enter Tryz.func42, Tryz.ntmps42
  go_wp2_with fail
  refine HT.out.mono ?_
  rintro e w1 ⟨rfl, h⟩
  have HK : Hid (Kept w w1) := by
    rcases h with rfl | rfl
    · exact Kept.refl _
    · exact kept_drewN w 1
  clear h HT
  go_wp2_with fail
  go_ret
  exact ⟨rfl, HK.out⟩
theorem Tryz.sizeTm : (Tryz.prog.info? 62).map (·.size) = some 2 := by kernel_rfl
/-- A term and whether there is one, as values. -/
abbrev tmV (m s : Bs) (b : Bool) : Value := .tuple #[.agg #[.string (bs m), .string (bs s)], .bool b]
def TermP (x : Inl) (w : World) (e : Ending) (w' : World) : Prop := e = .returned (tmV (mainI x) (subI x) (okM x)) ∧ Kept w w'
set_option maxRecDepth 100000 in
set_option maxHeartbeats 6400000 in
theorem termof_any {S : Nat → Prop} (n : Nat) (kind : Int) (text dest title id : Bs) (cls : List Bs) (prs : List Pr) (args : List Bs) (cits : List Cit) (kids : List Inl) (vC vP vA vT vK : Value) (w : World) (hg : Gnd w) (hC : Strs w vC cls) (hP : Prs w vP prs) (hA : vA.oneCell' = true) (hT : vT.oneCell' = true) (hk : Lns S n w vK kids)
    (hc : cls.length ≤ 1100000) (hp : prs.length ≤ 1100000) (hN : kids.length ≤ 1000000) (hok : okIL kids) (hl : (plainL kids).length ≤ 1000000) (hpl : ∀ v, getP prs kKey = some v → v.length ≤ 1000000) :
    Calls Tryz.prog 20 #[inV kind text dest title id vC vP vA vT vK] w (TermP (.mk kind text dest title id cls prs args cits kids) w) := by
  have HC := Lib.hid hC
  have HP := Lib.hid hP
  have HKK := Lib.hid hk
  have HGN := Lib.hid hg
  have hC1 : vC.oneCell' = true := by obtain ⟨a, c, rfl, _⟩ := hC; rfl
  have hP1 : vP.oneCell' = true := by obtain ⟨a, c, rfl, _⟩ := hP; rfl
  have hK1 := hk.one
  have HH := Lib.hid (fun w h => ahas_any id vC vP cls kIndex w h hP1 hc)
  have HG := Lib.hid (fun w h => aget_any id vC vP prs kKey w hC1 h hp)
  have HPL := Lib.hid (fun w h => plain_any (S := S) n kids vK w h hN hok (by omega))
  have HTR := Lib.hid itrim_any
  have HCU := Lib.hid (fun l w h1 h2 => cut_any l 33 w h1 h2)
  unfold kIndex atV at HH
  unfold GetP kKey atV at HG
  have e1 : (w.alloc (.cells #[.int .i64 kind, .string (bs text), .string (bs dest), .string (bs title), .string (bs id), vC, vP, vA, vT, vK] 51)).heap.size = w.heap.size + 1 := by simp
  have HB0 := Lib.hid ((Blk.new w 51 #[.int .i64 kind, .string (bs text), .string (bs dest), .string (bs title), .string (bs id), vC, vP, vA, vT, vK]).alloc (.cells #[.string (bs []), .string (bs [])] 62))
  have HR0 := Blk.new (w.alloc (.cells #[.int .i64 kind, .string (bs text), .string (bs dest), .string (bs title), .string (bs id), vC, vP, vA, vT, vK] 51)) 62 #[.string (bs []), .string (bs [])]
  rw [e1] at HR0
  have HR := Lib.hid HR0
  have HK0 := Lib.hid ((kept_alloc w (.cells #[.int .i64 kind, .string (bs text), .string (bs dest), .string (bs title), .string (bs id), vC, vP, vA, vT, vK] 51)).trans (kept_alloc _ (.cells #[.string (bs []), .string (bs [])] 62)))
  clear HR0 e1 hC hP hk hok hg
  obtain ⟨B, HBB⟩ : ∃ B, Hid (w.heap.size = B) := ⟨_, rfl⟩
  have hBz1 : w.heap.size ≤ B + 1 := by have := HBB.out; omega
  have HNO : Hid (isMk (.mk kind text dest title id cls prs args cits kids) = false → ∀ w', Kept w w' → TermP (.mk kind text dest title id cls prs args cits kids) w (.returned (tmV [] [] false)) w') := fun h w' k => by
    refine ⟨?_, k⟩
    unfold okM mainI subI
    rw [h]; rfl
  have HYES : Hid (isMk (.mk kind text dest title id cls prs args cits kids) = true → ∀ t, (getP prs kKey).getD (plainL kids) = t → ∀ w', Kept w w' → TermP (.mk kind text dest title id cls prs args cits kids) w (.returned (tmV (mainOf t) (subOf t) (!(mainOf t == [])))) w') := fun h t ht w' k => by
    refine ⟨?_, k⟩
    unfold okM mainI subI
    rw [h]
    show _ = Ending.returned (tmV (mainOf ((getP prs kKey).getD (plainL kids))) (subOf ((getP prs kKey).getD (plainL kids))) (!(mainOf ((getP prs kKey).getD (plainL kids)) == [])))
    rw [ht]
  have HTL : Hid (((getP prs kKey).getD (plainL kids)).length ≤ 1000000) := by
    show _ ≤ _
    cases hq : getP prs kKey with
    | none => exact hl
    | some v => exact hpl v hq
  have hmk : isMk (.mk kind text dest title id cls prs args cits kids) = (decide (kind = 11) && cls.contains kIndex) := rfl
  rw [hmk] at HNO HYES
  unfold kIndex at HNO HYES
  unfold kKey at HYES HTL
  generalize TermP (.mk kind text dest title id cls prs args cits kids) w = Q at *
  clear hpl
  by_cases q : kind = 11
  · subst q
    simp only [decide_true, Bool.true_and] at HNO HYES
    cases hct : cls.contains [105, 110, 100, 101, 120] with
    | false =>
      rw [hct] at HH HNO
      clear HYES HTL HPL HG HTR HCU HGN HP HKK
      go_enter Tryz.func20, Tryz.ntmps20
      go_wp2_with fail
      generalize World.alloc (World.alloc _ _) _ = w0 at *
      rw [HBB.out] at HB0 HR ⊢
      refine (HH.out _ (HC.out.kept HK0.out)).mono ?_
      rintro e w1 ⟨rfl, hk⟩
      have HK1 := Lib.hid (HK0.out.trans hk)
      have HR1 := Lib.hid (HR.out.kept hk)
      clear hk HR HK0
      go_wp2_with (refine wpList_store_blk rfl 62 (.tmp 2) (.tmp 19) (by rfl) (B + 1) _ #[.string (bs []), .string (bs [])] (by rfl) (by rfl) HR1.out rfl Tryz.sizeTm (by simp only [List.all_toArray, List.all_cons, List.all_nil]; rfl) ?_; intro w9 hb9 ho9; have r0 : w9.cell? ⟨B + 1, 0, none⟩ = some (.string (bs [])) := hb9.cell 0 _ rfl; have r1 : w9.cell? ⟨B + 1, 1, none⟩ = some (.string (bs [])) := hb9.cell 1 _ rfl; have rz := hb9.lt; have HK9 := Lib.hid (HK1.out.trans' (ho9.below HK1.out.size (fun i e => by rw [e]; exact hBz1))))
      refine bodyPost_ret (v := tmV [] [] false) ?_ rfl (HNO.out (by simp) _ HK9.out)
      simp [results, Tryz.results20, go_sem, r0, r1, rz]
    | true =>
      rw [hct] at HH HYES
      have HBA := Lib.hid HB0
      have hGK : ∀ w', Kept w w' → Gnd w' := fun w' k => HGN.out.kept k
      have HGK := Lib.hid hGK
      clear hGK HNO
      have HREST : Hid (∀ (t : Bs) (w1 : World), t.length ≤ 1000000 → True) := fun _ _ _ => trivial
      clear HREST
      cases hgp : getP prs [107, 101, 121] with
      | some v =>
        rw [hgp] at HG HTL HYES
        simp only [Option.getD_some, Option.isSome_some] at HG HTL HYES
        clear hgp HPL HKK
        have HT1 := Lib.hid (HTR.out v)
        go_enter Tryz.func20, Tryz.ntmps20
        go_wp2_with fail
        generalize World.alloc (World.alloc _ _) _ = w0 at *
        rw [HBB.out] at HB0 HR ⊢
        refine (HH.out _ (HC.out.kept HK0.out)).mono ?_
        rintro e w1 ⟨rfl, hk⟩
        have HK1 := Lib.hid (HK0.out.trans hk)
        have HR1 := Lib.hid (HR.out.kept hk)
        have HB1 := Lib.hid (HB0.out.kept hk)
        have b4 : w1.cell? ⟨B, 4, none⟩ = some (.string (bs id)) := HB1.out.cell 4 _ rfl
        have b5 : w1.cell? ⟨B, 5, none⟩ = some vC := HB1.out.cell 5 _ rfl
        have b6 : w1.cell? ⟨B, 6, none⟩ = some vP := HB1.out.cell 6 _ rfl
        have bz := HB1.out.lt
        clear hk HR HK0 HH HC HB0
        go_wp2_with fail
        clear b4 b5 b6 bz
        refine (HG.out _ (HP.out.kept HK1.out)).mono ?_
        rintro e w2 ⟨rfl, hk⟩
        have HK2 := Lib.hid (HK1.out.trans hk)
        have HR2 := Lib.hid (HR1.out.kept hk)
        clear hk HR1 HK1 HG HP HB1
        go_wp2_with fail
        refine (HT1.out _ (by have := HTL.out; omega)).mono ?_
        rintro e w3 ⟨rfl, hk⟩
        have HK3 := Lib.hid (HK2.out.trans hk)
        have HR3 := Lib.hid (HR2.out.kept hk)
        have HY := Lib.hid (HYES.out (by simp) v rfl)
        have hYE : mainOf v = trimI ((trimI v).take (before 33 (trimI v))) := rfl
        have hYF : subOf v = trimI ((trimI v).drop (before 33 (trimI v) + 1)) := rfl
        rw [hYE, hYF] at HY
        have htl := trimI_len v
        have HVL : Hid ((trimI v).length ≤ 1000000) := by have := HTL.out; show _ ≤ _; omega
        clear hk HR2 HK2 HT1 HTL HYES hYE hYF htl
        generalize trimI v = t at *
        go_wp2_with fail
        refine (HCU.out t _ (HGK.out _ HK3.out) (by have := HVL.out; omega)).mono ?_
        rintro e w4 ⟨rfl, hk⟩
        obtain ⟨nd, rfl⟩ := hk
        have HK4 := Lib.hid (HK3.out.trans (kept_drewN w3 nd))
        have HR4 := Lib.hid (HR3.out.kept (kept_drewN w3 nd))
        have HXX : Hid ((if before 33 t < t.length then #[Value.string (bs (t.take (before 33 t))), .string (bs (t.drop (before 33 t + 1))), .bool true] else #[.string (bs t), .string (bs []), .bool false]) = #[Value.string (bs (t.take (before 33 t))), .string (bs (t.drop (before 33 t + 1))), .bool (decide (before 33 t < t.length))]) := by
          show _ = _
          by_cases hb : before 33 t < t.length
          · rw [if_pos hb]; simp [hb]
          · have hle := before_le 33 t
            have hbe : before 33 t = t.length := by omega
            rw [if_neg hb, hbe]; simp
        rw [HXX.out]
        have hl1 : (t.take (before 33 t)).length ≤ 1000000 := by have := HVL.out; rw [List.length_take]; omega
        have hl2 : (t.drop (before 33 t + 1)).length ≤ 1000000 := by have := HVL.out; rw [List.length_drop]; omega
        have HT2 := Lib.hid (fun w => HTR.out (t.take (before 33 t)) w (by omega))
        have HT3 := Lib.hid (fun w => HTR.out (t.drop (before 33 t + 1)) w (by omega))
        clear HXX hl1 hl2 HCU HVL HTR HR3 HK3
        generalize decide (before 33 t < t.length) = fd at *
        generalize t.take (before 33 t) = t1 at *
        generalize t.drop (before 33 t + 1) = t2 at *
        generalize w3.drewN nd = w4 at *
        go_wp2_with fail
        refine (HT2.out _).mono ?_
        rintro e w5 ⟨rfl, hk⟩
        have HK5 := Lib.hid (HK4.out.trans hk)
        have HR5 := Lib.hid (HR4.out.kept hk)
        clear hk HT2 HK4 HR4
        go_wp2_with fail
        refine (HT3.out _).mono ?_
        rintro e w6 ⟨rfl, hk⟩
        generalize trimI t1 = ma at *
        generalize trimI t2 = sb at *
        have hk6 := HK5.out.trans hk
        have HR6 := Lib.hid (HR5.out.kept hk)
        have hn0 := Blk.new w6 62 #[.string (bs []), .string (bs [])]
        have hka := kept_alloc w6 (.cells #[.string (bs []), .string (bs [])] 62)
        have HN0 := Lib.hid hn0
        have HR7 := Lib.hid (HR6.out.kept hka)
        have HK7 := Lib.hid (hk6.trans hka)
        have hMB : w.heap.size ≤ w6.heap.size := hk6.size
        have hRM : B + 1 < w6.heap.size := HR6.out.lt
        clear hk HT3 HK5 HR5 HR6 hn0 hka hk6
        obtain ⟨M, HMM⟩ : ∃ M, Hid (w6.heap.size = M) := ⟨_, rfl⟩
        go_wp2_with (refine wpList_store_blk rfl 62 (.tmp 9) (.tmp 42) (by rfl) w6.heap.size _ #[.string (bs ma), .string (bs sb)] (by rfl) (by rfl) HN0.out rfl Tryz.sizeTm (by simp only [List.all_toArray, List.all_cons, List.all_nil]; rfl) ?_; intro w8 hb8 ho8; have HB8 := Lib.hid hb8; have HO8 := Lib.hid ho8; clear hb8 ho8)
        rw [HMM.out] at HB8 HO8 hMB hRM ⊢
        have HK8 := Lib.hid (HK7.out.trans' (HO8.out.below HK7.out.size (fun i e => by rw [e]; exact hMB)))
        have HR8 := Lib.hid (HR7.out.onl HO8.out (by omega))
        clear HR7 HK7 HN0 HO8
        have x0 : w8.cell? ⟨M, 0, none⟩ = some (.string (bs ma)) := HB8.out.cell 0 _ rfl
        have x1 : w8.cell? ⟨M, 1, none⟩ = some (.string (bs sb)) := HB8.out.cell 1 _ rfl
        have xz := HB8.out.lt
        have y0 : w8.cell? ⟨B + 1, 0, none⟩ = some (.string (bs [])) := HR8.out.cell 0 _ rfl
        have y1 : w8.cell? ⟨B + 1, 1, none⟩ = some (.string (bs [])) := HR8.out.cell 1 _ rfl
        have g0 := HR8.out.free 0
        have g1 := HR8.out.free 1
        have yz := HR8.out.lt
        have hBM : B + 1 ≠ M := by omega
        go_region
        all_goals go_wp2_with fail
        all_goals
          have hZ : Blk ((w8.setCell ⟨B + 1, 0, none⟩ (.string (bs ma))).setCell ⟨B + 1, 1, none⟩ (.string (bs sb))).drew (B + 1) 62 #[.string (bs ma), .string (bs sb)] := Blk.kept ((HR8.out.set 0 (.string (bs ma))).set 1 (.string (bs sb))) (kept_drewN _ 1)
          have hKZ : Kept w ((w8.setCell ⟨B + 1, 0, none⟩ (.string (bs ma))).setCell ⟨B + 1, 1, none⟩ (.string (bs sb))).drew := (kept_set (kept_set HK8.out (B + 1) 0 _ hBz1) (B + 1) 1 _ hBz1).trans (kept_drewN _ 1)
          have r0 := hZ.cell 0 _ rfl
          have r1 := hZ.cell 1 _ rfl
          have rz := hZ.lt
          have HQ := HY.out _ hKZ
          clear hZ hKZ x0 x1 xz y0 y1 g0 g1 yz
          generalize ((w8.setCell ⟨B + 1, 0, none⟩ (.string (bs ma))).setCell ⟨B + 1, 1, none⟩ (.string (bs sb))).drew = wz at *
          refine bodyPost_ret (v := tmV ma sb (!(ma == []))) ?_ (by simp [Act.put]) HQ
          simp [results, Tryz.results20, go_sem, Act.put, r0, r1, rz]
      | none =>
        rw [hgp] at HG HTL HYES
        simp only [Option.getD_none, Option.isSome_none] at HG HTL HYES
        clear hgp
        obtain ⟨v, HVV⟩ : ∃ v, Hid (plainL kids = v) := ⟨_, rfl⟩
        rw [HVV.out] at HPL HYES HTL
        have HT1 := Lib.hid (HTR.out v)
        go_enter Tryz.func20, Tryz.ntmps20
        go_wp2_with fail
        generalize World.alloc (World.alloc _ _) _ = w0 at *
        rw [HBB.out] at HB0 HR ⊢
        refine (HH.out _ (HC.out.kept HK0.out)).mono ?_
        rintro e w1 ⟨rfl, hk⟩
        have HK1 := Lib.hid (HK0.out.trans hk)
        have HR1 := Lib.hid (HR.out.kept hk)
        have HB1 := Lib.hid (HB0.out.kept hk)
        have b4 : w1.cell? ⟨B, 4, none⟩ = some (.string (bs id)) := HB1.out.cell 4 _ rfl
        have b5 : w1.cell? ⟨B, 5, none⟩ = some vC := HB1.out.cell 5 _ rfl
        have b6 : w1.cell? ⟨B, 6, none⟩ = some vP := HB1.out.cell 6 _ rfl
        have bz := HB1.out.lt
        clear hk HR HK0 HH HC HB0
        go_wp2_with fail
        clear b4 b5 b6 bz
        refine (HG.out _ (HP.out.kept HK1.out)).mono ?_
        rintro e w1' ⟨rfl, hk⟩
        have HK1' := Lib.hid (HK1.out.trans hk)
        have HR1' := Lib.hid (HR1.out.kept hk)
        have HB1' := Lib.hid (HB1.out.kept hk)
        have b9 : w1'.cell? ⟨B, 9, none⟩ = some vK := HB1'.out.cell 9 _ rfl
        have bz := HB1'.out.lt
        clear hk HR1 HK1 HG HP HB1
        go_wp2_with fail
        clear b9 bz
        refine (HPL.out _ (HKK.out.kept HK1'.out)).mono ?_
        rintro e w2 ⟨rfl, hk⟩
        have HK2 := Lib.hid (HK1'.out.trans hk)
        have HR2 := Lib.hid (HR1'.out.kept hk)
        clear hk HR1' HK1' HPL HKK HB1'
        go_wp2_with fail
        refine (HT1.out _ (by have := HTL.out; omega)).mono ?_
        rintro e w3 ⟨rfl, hk⟩
        have HK3 := Lib.hid (HK2.out.trans hk)
        have HR3 := Lib.hid (HR2.out.kept hk)
        have HY := Lib.hid (HYES.out (by simp) v rfl)
        have hYE : mainOf v = trimI ((trimI v).take (before 33 (trimI v))) := rfl
        have hYF : subOf v = trimI ((trimI v).drop (before 33 (trimI v) + 1)) := rfl
        rw [hYE, hYF] at HY
        have htl := trimI_len v
        have HVL : Hid ((trimI v).length ≤ 1000000) := by have := HTL.out; show _ ≤ _; omega
        clear hk HR2 HK2 HT1 HTL HYES hYE hYF htl
        generalize trimI v = t at *
        go_wp2_with fail
        refine (HCU.out t _ (HGK.out _ HK3.out) (by have := HVL.out; omega)).mono ?_
        rintro e w4 ⟨rfl, hk⟩
        obtain ⟨nd, rfl⟩ := hk
        have HK4 := Lib.hid (HK3.out.trans (kept_drewN w3 nd))
        have HR4 := Lib.hid (HR3.out.kept (kept_drewN w3 nd))
        have HXX : Hid ((if before 33 t < t.length then #[Value.string (bs (t.take (before 33 t))), .string (bs (t.drop (before 33 t + 1))), .bool true] else #[.string (bs t), .string (bs []), .bool false]) = #[Value.string (bs (t.take (before 33 t))), .string (bs (t.drop (before 33 t + 1))), .bool (decide (before 33 t < t.length))]) := by
          show _ = _
          by_cases hb : before 33 t < t.length
          · rw [if_pos hb]; simp [hb]
          · have hle := before_le 33 t
            have hbe : before 33 t = t.length := by omega
            rw [if_neg hb, hbe]; simp
        rw [HXX.out]
        have hl1 : (t.take (before 33 t)).length ≤ 1000000 := by have := HVL.out; rw [List.length_take]; omega
        have hl2 : (t.drop (before 33 t + 1)).length ≤ 1000000 := by have := HVL.out; rw [List.length_drop]; omega
        have HT2 := Lib.hid (fun w => HTR.out (t.take (before 33 t)) w (by omega))
        have HT3 := Lib.hid (fun w => HTR.out (t.drop (before 33 t + 1)) w (by omega))
        clear HXX hl1 hl2 HCU HVL HTR HR3 HK3
        generalize decide (before 33 t < t.length) = fd at *
        generalize t.take (before 33 t) = t1 at *
        generalize t.drop (before 33 t + 1) = t2 at *
        generalize w3.drewN nd = w4 at *
        go_wp2_with fail
        refine (HT2.out _).mono ?_
        rintro e w5 ⟨rfl, hk⟩
        have HK5 := Lib.hid (HK4.out.trans hk)
        have HR5 := Lib.hid (HR4.out.kept hk)
        clear hk HT2 HK4 HR4
        go_wp2_with fail
        refine (HT3.out _).mono ?_
        rintro e w6 ⟨rfl, hk⟩
        generalize trimI t1 = ma at *
        generalize trimI t2 = sb at *
        have hk6 := HK5.out.trans hk
        have HR6 := Lib.hid (HR5.out.kept hk)
        have hn0 := Blk.new w6 62 #[.string (bs []), .string (bs [])]
        have hka := kept_alloc w6 (.cells #[.string (bs []), .string (bs [])] 62)
        have HN0 := Lib.hid hn0
        have HR7 := Lib.hid (HR6.out.kept hka)
        have HK7 := Lib.hid (hk6.trans hka)
        have hMB : w.heap.size ≤ w6.heap.size := hk6.size
        have hRM : B + 1 < w6.heap.size := HR6.out.lt
        clear hk HT3 HK5 HR5 HR6 hn0 hka hk6
        obtain ⟨M, HMM⟩ : ∃ M, Hid (w6.heap.size = M) := ⟨_, rfl⟩
        go_wp2_with (refine wpList_store_blk rfl 62 (.tmp 9) (.tmp 42) (by rfl) w6.heap.size _ #[.string (bs ma), .string (bs sb)] (by rfl) (by rfl) HN0.out rfl Tryz.sizeTm (by simp only [List.all_toArray, List.all_cons, List.all_nil]; rfl) ?_; intro w8 hb8 ho8; have HB8 := Lib.hid hb8; have HO8 := Lib.hid ho8; clear hb8 ho8)
        rw [HMM.out] at HB8 HO8 hMB hRM ⊢
        have HK8 := Lib.hid (HK7.out.trans' (HO8.out.below HK7.out.size (fun i e => by rw [e]; exact hMB)))
        have HR8 := Lib.hid (HR7.out.onl HO8.out (by omega))
        clear HR7 HK7 HN0 HO8
        have x0 : w8.cell? ⟨M, 0, none⟩ = some (.string (bs ma)) := HB8.out.cell 0 _ rfl
        have x1 : w8.cell? ⟨M, 1, none⟩ = some (.string (bs sb)) := HB8.out.cell 1 _ rfl
        have xz := HB8.out.lt
        have y0 : w8.cell? ⟨B + 1, 0, none⟩ = some (.string (bs [])) := HR8.out.cell 0 _ rfl
        have y1 : w8.cell? ⟨B + 1, 1, none⟩ = some (.string (bs [])) := HR8.out.cell 1 _ rfl
        have g0 := HR8.out.free 0
        have g1 := HR8.out.free 1
        have yz := HR8.out.lt
        have hBM : B + 1 ≠ M := by omega
        go_region
        all_goals go_wp2_with fail
        all_goals
          have hZ : Blk ((w8.setCell ⟨B + 1, 0, none⟩ (.string (bs ma))).setCell ⟨B + 1, 1, none⟩ (.string (bs sb))).drew (B + 1) 62 #[.string (bs ma), .string (bs sb)] := Blk.kept ((HR8.out.set 0 (.string (bs ma))).set 1 (.string (bs sb))) (kept_drewN _ 1)
          have hKZ : Kept w ((w8.setCell ⟨B + 1, 0, none⟩ (.string (bs ma))).setCell ⟨B + 1, 1, none⟩ (.string (bs sb))).drew := (kept_set (kept_set HK8.out (B + 1) 0 _ hBz1) (B + 1) 1 _ hBz1).trans (kept_drewN _ 1)
          have r0 := hZ.cell 0 _ rfl
          have r1 := hZ.cell 1 _ rfl
          have rz := hZ.lt
          have HQ := HY.out _ hKZ
          clear hZ hKZ x0 x1 xz y0 y1 g0 g1 yz
          generalize ((w8.setCell ⟨B + 1, 0, none⟩ (.string (bs ma))).setCell ⟨B + 1, 1, none⟩ (.string (bs sb))).drew = wz at *
          refine bodyPost_ret (v := tmV ma sb (!(ma == []))) ?_ (by simp [Act.put]) HQ
          simp [results, Tryz.results20, go_sem, Act.put, r0, r1, rz]
  · have q' : (kind == 11) = false := by simpa using q
    simp only [q, decide_false, Bool.false_and] at HNO
    clear HYES HTL HPL HG HTR HCU HGN HP HKK HH HC
    go_enter Tryz.func20, Tryz.ntmps20
    go_wp2_with fail
    generalize World.alloc (World.alloc _ _) _ = w0 at *
    rw [HBB.out] at HB0 HR ⊢
    have r0 : w0.cell? ⟨B + 1, 0, none⟩ = some (.string (bs [])) := HR.out.cell 0 _ rfl
    have r1 : w0.cell? ⟨B + 1, 1, none⟩ = some (.string (bs [])) := HR.out.cell 1 _ rfl
    have rz := HR.out.lt
    refine bodyPost_ret (v := tmV [] [] false) ?_ rfl (HNO.out (by simp) _ HK0.out)
    simp [results, Tryz.results20, go_sem, r0, r1, rz]
end Go.Proofs.YtnbhpmleboildaaGreatDoor

/- A map of words that a literal builds: insertion and look-up. No condition. -/
set_option linter.all false
namespace Go.Proofs.YtnbhpmleboildaaGreatDoor
open Go.RowKit

theorem bs_beq (a b : Bs) : (bs a == bs b) = (a == b) := by
  show ((bs a).data == (bs b).data) = _
  rw [Bool.eq_iff_iff, beq_iff_eq, beq_iff_eq]
  exact ⟨fun h => by have := congrArg Array.toList h; exact this, fun h => by rw [h]⟩
theorem run_check (e : Bool) (s : ByteArray) (w : World) : (Instr.checkKey e 10000 9 (.string s)).run Tryz.prog w = .ok () w := by
  show (Instr.checkKey e (9999 + 1) 9 (.string s)).run Tryz.prog w = .ok () w
  rw [Instr.checkKey]
  simp only [Sem.run_bind, run_underlying Tryz.underlying9, Result.andThen]
  simp [Sem.run_pure]
end Go.Proofs.YtnbhpmleboildaaGreatDoor

/- A set of texts that a call makes in memory: insertion and look-up. No condition. -/
set_option linter.all false
namespace Go.Proofs.YtnbhpmleboildaaGreatDoor
open Go.RowKit

def entK (k : Bs) (i : Nat) : MapEntry := { key := .string (bs k), val := .bool true, born := i }
def entsK (ks : List Bs) : Array MapEntry := (ks.mapIdx fun i k => entK k i).toArray
/-- Block m is the map of the keys ks. -/
def MapK (w : World) (m : Nat) (ks : List Bs) : Prop := w.heap[m]? = some (.map (entsK ks) ks.length)
/-- The world with another map of keys in block m. -/
def putK (w : World) (m : Nat) (ks : List Bs) : World := { w with heap := w.heap.setIfInBounds m (.map (entsK ks) ks.length) }
theorem MapK.lt {w : World} {m : Nat} {ks : List Bs} (h : MapK w m ks) : m < w.heap.size := by
  rcases Nat.lt_or_ge m w.heap.size with q | q
  · exact q
  · unfold MapK at h; rw [Array.getElem?_eq_none q] at h; cases h
theorem MapK.only {S : Nat → Prop} {w w' : World} {m : Nat} {ks : List Bs} (h : MapK w m ks) (k : Only S w w') (hs : ¬ S m) : MapK w' m ks := by
  unfold MapK at h ⊢; rw [k.block m (MapK.lt h) hs]; exact h
theorem putK_map (w : World) (m : Nat) (ks : List Bs) (hm : m < w.heap.size) : MapK (putK w m ks) m ks := by
  unfold MapK putK; simp [hm]
theorem putK_only (w : World) (m : Nat) (ks : List Bs) : Only (fun i => i = m) w (putK w m ks) :=
  ⟨rfl, rfl, rfl, by simp [putK], fun k hk hs => by simp [putK, Array.getElem?_setIfInBounds, Ne.symm hs]⟩
theorem entsK_snoc (ks : List Bs) (k : Bs) : entsK (ks ++ [k]) = (entsK ks).push (entK k ks.length) := by
  unfold entsK; rw [List.mapIdx_append]; simp
theorem findK_none (k : Bs) : ∀ (l : List Bs) (i j : Nat), k ∉ l → Instr.findNow .string (.string (bs k)) (l.mapIdx fun i' x => entK x (i' + i)) j = some none
  | [], _, _, _ => rfl
  | x :: l, i, j, h => by
    have hx : (bs k == bs x) = false := by rw [bs_beq, beq_eq_false_iff_ne]; exact fun e => h (by simp [e])
    rw [List.mapIdx_cons]
    unfold Instr.findNow
    simp only [entK, Instr.sameNow, hx]
    have := findK_none k l (i + 1) (j + 1) (fun e => h (by simp [e]))
    simp only [entK] at this
    rw [← this]
    congr 1
    apply List.ext_getElem?
    intro m
    simp [List.getElem?_mapIdx]
    cases l[m]? <;> simp; omega
theorem findK_some (k : Bs) : ∀ (l : List Bs) (i j : Nat), k ∈ l → ∃ m, Instr.findNow .string (.string (bs k)) (l.mapIdx fun i' x => entK x (i' + i)) j = some (some (m, .bool true))
  | [], _, _, h => by cases h
  | x :: l, i, j, h => by
    rw [List.mapIdx_cons]
    unfold Instr.findNow
    by_cases q : x = k
    · have hx : (bs k == bs x) = true := by rw [bs_beq, beq_iff_eq]; exact q.symm
      simp only [entK, Instr.sameNow, hx]
      exact ⟨_, rfl⟩
    · have hx : (bs k == bs x) = false := by rw [bs_beq, beq_eq_false_iff_ne]; exact fun e => q e.symm
      have hl : k ∈ l := by rcases List.mem_cons.1 h with e | e; exact absurd e.symm q; exact e
      simp only [entK, Instr.sameNow, hx]
      obtain ⟨m, hm⟩ := findK_some k l (i + 1) (j + 1) hl
      refine ⟨m, ?_⟩
      simp only [entK] at hm
      rw [← hm]
      congr 1
      apply List.ext_getElem?
      intro m
      simp [List.getElem?_mapIdx]
      cases l[m]? <;> simp; omega
theorem entsK_list (l : List Bs) : (entsK l).toList = l.mapIdx fun i' x => entK x (i' + 0) := by simp [entsK]
theorem runK_none (w : World) (l : List Bs) (k : Bs) (hk : k ∉ l) : (Instr.findKey 9 (.string (bs k)) (entsK l).toList).run Tryz.prog w = .ok none w := by
  unfold Instr.findKey
  simp only [Sem.run_bind, run_underlying Tryz.underlying9, Result.andThen, entsK_list, findK_none k l 0 0 hk]
  simp [Sem.run_pure]
theorem runK_some (w : World) (l : List Bs) (k : Bs) (hk : k ∈ l) : ∃ m, (Instr.findKey 9 (.string (bs k)) (entsK l).toList).run Tryz.prog w = .ok (some (m, .bool true)) w := by
  obtain ⟨m, hm⟩ := findK_some k l 0 0 hk
  refine ⟨m, ?_⟩
  unfold Instr.findKey
  simp only [Sem.run_bind, run_underlying Tryz.underlying9, Result.andThen, entsK_list, hm]
  simp [Sem.run_pure]
theorem MapK_kept {w w' : World} {m : Nat} {ks : List Bs} (h : MapK w m ks) (k : Kept w w') : MapK w' m ks := h.only (Only.of_kept (S := fun _ => False) k) (fun q => q)
theorem MapK_made (w : World) : MapK (w.alloc (.map #[] 0)) w.heap.size [] := heap_alloc_new w _
theorem zero_bool (w : World) : (zeroValue 4).run Tryz.prog w = .ok (.bool false) w := by kernel_rfl
theorem lookK (w : World) (m : Nat) (ks : List Bs) (k : Bs) (h : MapK w m ks) : (Instr.lookup 78 (.map (some m)) (.string (bs k)) false).run Tryz.prog w = .ok (.bool (ks.contains k)) w := by
  have hu : Tryz.prog.underlying 78 = some (.map 9 4) := Tryz.underlying78
  unfold MapK at h
  unfold Instr.lookup
  simp only [Sem.run_bind, run_underlying hu, Result.andThen]
  by_cases hk : k ∈ ks
  · obtain ⟨j, hf⟩ := runK_some w ks k hk
    have hc : ks.contains k = true := by simpa using hk
    simp only [getObj, Sem.run_bind, Sem.run, h, Result.andThen, Sem.run_pure, run_check, hf, hc]
    simp [Sem.run_pure]
  · have hf := runK_none w ks k hk
    have hc : ks.contains k = false := by simpa using hk
    simp only [getObj, Sem.run_bind, Sem.run, h, Result.andThen, Sem.run_pure, run_check, hf, hc, zero_bool]
    simp [Sem.run_pure]
theorem insK (w : World) (m : Nat) (ks : List Bs) (k : Bs) (h : MapK w m ks) (hk : k ∉ ks) : (Instr.mapUpdate 78 (.map (some m)) (.string (bs k)) (.bool true)).run Tryz.prog w = .ok () (putK w m (ks ++ [k])) := by
  have hu : Tryz.prog.underlying 78 = some (.map 9 4) := Tryz.underlying78
  unfold MapK at h
  unfold Instr.mapUpdate
  simp only [Sem.run_bind, run_underlying hu, Result.andThen]
  simp only [getObj, Sem.run_bind, Sem.run, h, Result.andThen, Sem.run_pure, run_check, runK_none _ ks k hk, setObj]
  refine congrArg (Result.ok ()) ?_
  unfold putK
  rw [entsK_snoc]
  simp [entK]
end Go.Proofs.YtnbhpmleboildaaGreatDoor

/- strconv.Itoa at any number. Condition: the table of tens. -/
set_option linter.all false
namespace Go.Proofs.YtnbhpmleboildaaGreatDoor
open Go.RowKit

theorem itoa_any (n : Int) (w : World) (h0 : -9223372036854775808 ≤ n) (h1 : n ≤ 9223372036854775807) (h : Lib.TabIs Tryz.prog w "internal/strconv.uint64pow10" .u64 Lib.pow10Tab) : Calls Tryz.prog 30 #[.int .i64 n] w fun e w' => e = .returned (.string (bs (Lib.itoa n))) ∧ Kept w w' := by
  refine (Tryz.strconv_Itoa n h0 h1 w h).mono ?_
  rintro e w' ⟨rfl, k, os, rfl⟩
  exact ⟨rfl, Lib.below_grow w.heap.size w (Nat.le_refl _) k os⟩
theorem tab_kept {w w' : World} (h : Lib.TabIs Tryz.prog w "internal/strconv.uint64pow10" .u64 Lib.pow10Tab) (k : Kept w w') : Lib.TabIs Tryz.prog w' "internal/strconv.uint64pow10" .u64 Lib.pow10Tab := Lib.tabBelow_of_tabIs h w' k
end Go.Proofs.YtnbhpmleboildaaGreatDoor
