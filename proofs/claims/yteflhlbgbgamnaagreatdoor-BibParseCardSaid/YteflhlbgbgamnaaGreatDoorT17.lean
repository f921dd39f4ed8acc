/- person.Parse at three fields: the walks. Conditions: lengths. -/
import Derived.Test.YteflhlbgbgamnaaGreatDoorT03
import Derived.Test.YteflhlbgbgamnaaGreatDoorT16
import Derived.Deep.RegionWith

set_option linter.all false
namespace Go.Proofs.YteflhlbgbgamnaaGreatDoor
open Go.RowKit

set_option maxRecDepth 100000 in
set_option maxHeartbeats 3200000 in
theorem parse_ok3_n (l : Bs) (w : World) (hg : Gnd w) (hs : l.length ≤ 1000000) (hl : lineB l = true) (t : Bs) (HC : Hid (cleanL l = t)) (HNB : Hid (∀ r, t ≠ 123 :: r)) (ht : t.length ≤ 1000001) (hcnt : t.count 44 ≤ 2) (HA1 : Hid (([] : Bs).any (inSet setC) = false)) (HA2 : Hid (t.any (inSet setN) = false)) (a b c : Bs) (HSP : Hid (splitC 44 t = [a, b, c])) (ha : a.length ≤ 1000010) (hb : b.length ≤ 1000010) (hc : c.length ≤ 1000010) (f : Bs) (HFA : Hid (cleanL a = f)) (s : Bs) (HFB : Hid (cleanL b = s)) (g : Bs) (HFC : Hid (cleanL c = g)) (hf : ¬ f = []) (hfe : f.isEmpty = false) :
    Calls Tryz.prog 144 #[.string (bs l)] w fun e w' => e = .returned (.tuple #[persV f g [] s, .int .i64 0]) ∧ Kept w w' := by
  have hcl := cleanL_le l
  go_enter Tryz.func144, Tryz.ntmps144
  go_wp2_with fail
  refine (line_any l _ (by omega)).mono ?_
  rintro e w1 ⟨rfl, n, rfl⟩
  rw [hl]
  go_wp2_with fail
  refine (clean_any l _ (hg.kept (((kept_alloc w _).trans (kept_alloc _ _)).trans (kept_drewN _ n))) (by omega)).mono ?_
  rintro e w2 ⟨rfl, hk2⟩
  have HP0 := Lib.hid ((Blk.new (w.alloc (.cells #[Value.string (bs []), Value.string (bs []), Value.string (bs []), Value.string (bs [])] 32)) 32 #[Value.string (bs []), Value.string (bs []), Value.string (bs []), Value.string (bs [])]).drewN n)
  have bP : Blk w2 (w.heap.size + 1) 32 #[Value.string (bs []), Value.string (bs []), Value.string (bs []), Value.string (bs [])] := by have := HP0.out.kept hk2; simpa using this
  have bR : Blk w2 w.heap.size 32 #[Value.string (bs []), Value.string (bs []), Value.string (bs []), Value.string (bs [])] := (((Blk.new w 32 #[Value.string (bs []), Value.string (bs []), Value.string (bs []), Value.string (bs [])]).alloc _).drewN n).kept hk2
  have kk : Kept w w2 := (((kept_alloc w _).trans (kept_alloc _ _)).trans (kept_drewN _ n)).trans hk2
  clear HP0
  have HP := Lib.hid bP
  have HR := Lib.hid bR
  have HK := Lib.hid kk
  have HG := Lib.hid (hg.kept kk)
  clear bP bR kk hk2
  rw [HC.out]
  go_wp2_with fail
  refine (cutp_no t 123 _ HNB.out).mono ?_
  rintro e w' ⟨rfl, rfl⟩
  have cP0 : w2.cell? ⟨w.heap.size + 1, 0, none⟩ = some (Value.string (bs [])) := HP.out.cell 0 _ rfl
  have cR0 : w2.cell? ⟨w.heap.size, 0, none⟩ = some (Value.string (bs [])) := HR.out.cell 0 _ rfl
  have fP0 := HP.out.free 0
  have fR0 := HR.out.free 0
  have cP1 : w2.cell? ⟨w.heap.size + 1, 1, none⟩ = some (Value.string (bs [])) := HP.out.cell 1 _ rfl
  have cR1 : w2.cell? ⟨w.heap.size, 1, none⟩ = some (Value.string (bs [])) := HR.out.cell 1 _ rfl
  have fP1 := HP.out.free 1
  have fR1 := HR.out.free 1
  have cP2 : w2.cell? ⟨w.heap.size + 1, 2, none⟩ = some (Value.string (bs [])) := HP.out.cell 2 _ rfl
  have cR2 : w2.cell? ⟨w.heap.size, 2, none⟩ = some (Value.string (bs [])) := HR.out.cell 2 _ rfl
  have fP2 := HP.out.free 2
  have fR2 := HR.out.free 2
  have cP3 : w2.cell? ⟨w.heap.size + 1, 3, none⟩ = some (Value.string (bs [])) := HP.out.cell 3 _ rfl
  have cR3 : w2.cell? ⟨w.heap.size, 3, none⟩ = some (Value.string (bs [])) := HR.out.cell 3 _ rfl
  have fP3 := HP.out.free 3
  have fR3 := HR.out.free 3
  have hzP := HP.out.lt
  have hzR := HR.out.lt
  go_wp2_with fail
  refine (count_any t 44 _).mono ?_
  rintro e w' ⟨rfl, rfl⟩
  go_wp2_with fail
  have HSC : Hid (setC = [44, 59, 123, 125]) := rfl
  have HSN : Hid (setN = [59, 123, 125]) := rfl
  rw [← HSC.out]
  refine (cany_any [] setC _ asciiC  (by decide) (by decide) (by simp)).mono ?_
  rintro e w5 ⟨rfl, hk5⟩
  rw [HA1.out]
  clear cP0 cR0 fP0 fR0 cP1 cR1 fP1 fR1 cP2 cR2 fP2 fR2 cP3 cR3 fP3 fR3 hzP hzR
  have bP : Blk w5 (w.heap.size + 1) 32 #[Value.string (bs []), Value.string (bs []), Value.string (bs []), Value.string (bs [])] := (HP.out).kept hk5
  have bR : Blk w5 w.heap.size 32 #[Value.string (bs []), Value.string (bs []), Value.string (bs []), Value.string (bs [])] := (HR.out).kept hk5
  have kk : Kept w w5 := (HK.out).trans hk5
  clear HP HR HK HG
  have HP := Lib.hid bP
  have HR := Lib.hid bR
  have HK := Lib.hid kk
  have HG := Lib.hid (hg.kept kk)
  clear bP bR kk hk5
  have cP0 : w5.cell? ⟨w.heap.size + 1, 0, none⟩ = some (Value.string (bs [])) := HP.out.cell 0 _ rfl
  have cR0 : w5.cell? ⟨w.heap.size, 0, none⟩ = some (Value.string (bs [])) := HR.out.cell 0 _ rfl
  have fP0 := HP.out.free 0
  have fR0 := HR.out.free 0
  have cP1 : w5.cell? ⟨w.heap.size + 1, 1, none⟩ = some (Value.string (bs [])) := HP.out.cell 1 _ rfl
  have cR1 : w5.cell? ⟨w.heap.size, 1, none⟩ = some (Value.string (bs [])) := HR.out.cell 1 _ rfl
  have fP1 := HP.out.free 1
  have fR1 := HR.out.free 1
  have cP2 : w5.cell? ⟨w.heap.size + 1, 2, none⟩ = some (Value.string (bs [])) := HP.out.cell 2 _ rfl
  have cR2 : w5.cell? ⟨w.heap.size, 2, none⟩ = some (Value.string (bs [])) := HR.out.cell 2 _ rfl
  have fP2 := HP.out.free 2
  have fR2 := HR.out.free 2
  have cP3 : w5.cell? ⟨w.heap.size + 1, 3, none⟩ = some (Value.string (bs [])) := HP.out.cell 3 _ rfl
  have cR3 : w5.cell? ⟨w.heap.size, 3, none⟩ = some (Value.string (bs [])) := HR.out.cell 3 _ rfl
  have fP3 := HP.out.free 3
  have fR3 := HR.out.free 3
  have hzP := HP.out.lt
  have hzR := HR.out.lt
  go_wp2_with fail
  rw [← HSN.out]
  refine (cany_any t setN _ asciiN (by decide) (by decide) (by omega)).mono ?_
  rintro e w6 ⟨rfl, hk6⟩
  rw [HA2.out]
  clear cP0 cR0 fP0 fR0 cP1 cR1 fP1 fR1 cP2 cR2 fP2 fR2 cP3 cR3 fP3 fR3 hzP hzR
  have bP : Blk w6 (w.heap.size + 1) 32 #[Value.string (bs []), Value.string (bs []), Value.string (bs []), Value.string (bs [])] := (HP.out).kept hk6
  have bR : Blk w6 w.heap.size 32 #[Value.string (bs []), Value.string (bs []), Value.string (bs []), Value.string (bs [])] := (HR.out).kept hk6
  have kk : Kept w w6 := (HK.out).trans hk6
  clear HP HR HK HG
  have HP := Lib.hid bP
  have HR := Lib.hid bR
  have HK := Lib.hid kk
  have HG := Lib.hid (hg.kept kk)
  clear bP bR kk hk6
  have cP0 : w6.cell? ⟨w.heap.size + 1, 0, none⟩ = some (Value.string (bs [])) := HP.out.cell 0 _ rfl
  have cR0 : w6.cell? ⟨w.heap.size, 0, none⟩ = some (Value.string (bs [])) := HR.out.cell 0 _ rfl
  have fP0 := HP.out.free 0
  have fR0 := HR.out.free 0
  have cP1 : w6.cell? ⟨w.heap.size + 1, 1, none⟩ = some (Value.string (bs [])) := HP.out.cell 1 _ rfl
  have cR1 : w6.cell? ⟨w.heap.size, 1, none⟩ = some (Value.string (bs [])) := HR.out.cell 1 _ rfl
  have fP1 := HP.out.free 1
  have fR1 := HR.out.free 1
  have cP2 : w6.cell? ⟨w.heap.size + 1, 2, none⟩ = some (Value.string (bs [])) := HP.out.cell 2 _ rfl
  have cR2 : w6.cell? ⟨w.heap.size, 2, none⟩ = some (Value.string (bs [])) := HR.out.cell 2 _ rfl
  have fP2 := HP.out.free 2
  have fR2 := HR.out.free 2
  have cP3 : w6.cell? ⟨w.heap.size + 1, 3, none⟩ = some (Value.string (bs [])) := HP.out.cell 3 _ rfl
  have cR3 : w6.cell? ⟨w.heap.size, 3, none⟩ = some (Value.string (bs [])) := HR.out.cell 3 _ rfl
  have fP3 := HP.out.free 3
  have fR3 := HR.out.free 3
  have hzP := HP.out.lt
  have hzR := HR.out.lt
  go_wp2_with fail
  refine (split_any t 44 _ HG.out (by omega)).mono ?_
  rintro e w7 ⟨rfl, hw7⟩
  have hk7 : Kept w6 w7 := by rw [hw7]; exact kept_alloc _ _
  have bS : Blk w7 w6.heap.size 9 (strCells (splitC 44 t)).toArray := by rw [hw7]; exact Blk.new _ _ _
  have hB : w6.heap.size ≠ w.heap.size + 1 := by omega
  clear cP0 cR0 fP0 fR0 cP1 cR1 fP1 fR1 cP2 cR2 fP2 fR2 cP3 cR3 fP3 fR3 hzP hzR
  have bP : Blk w7 (w.heap.size + 1) 32 #[Value.string (bs []), Value.string (bs []), Value.string (bs []), Value.string (bs [])] := (HP.out).kept hk7
  have bR : Blk w7 w.heap.size 32 #[Value.string (bs []), Value.string (bs []), Value.string (bs []), Value.string (bs [])] := (HR.out).kept hk7
  have kk : Kept w w7 := (HK.out).trans hk7
  clear HP HR HK HG
  have HP := Lib.hid bP
  have HR := Lib.hid bR
  have HK := Lib.hid kk
  have HG := Lib.hid (hg.kept kk)
  clear bP bR kk hk7
  clear hw7
  rw [HSP.out]
  rw [HSP.out] at bS
  have HS : Hid (Blk w7 w6.heap.size 9 #[Value.string (bs a), Value.string (bs b), Value.string (bs c)]) := bS
  clear bS
  have cP0 : w7.cell? ⟨w.heap.size + 1, 0, none⟩ = some (Value.string (bs [])) := HP.out.cell 0 _ rfl
  have cR0 : w7.cell? ⟨w.heap.size, 0, none⟩ = some (Value.string (bs [])) := HR.out.cell 0 _ rfl
  have fP0 := HP.out.free 0
  have fR0 := HR.out.free 0
  have cP1 : w7.cell? ⟨w.heap.size + 1, 1, none⟩ = some (Value.string (bs [])) := HP.out.cell 1 _ rfl
  have cR1 : w7.cell? ⟨w.heap.size, 1, none⟩ = some (Value.string (bs [])) := HR.out.cell 1 _ rfl
  have fP1 := HP.out.free 1
  have fR1 := HR.out.free 1
  have cP2 : w7.cell? ⟨w.heap.size + 1, 2, none⟩ = some (Value.string (bs [])) := HP.out.cell 2 _ rfl
  have cR2 : w7.cell? ⟨w.heap.size, 2, none⟩ = some (Value.string (bs [])) := HR.out.cell 2 _ rfl
  have fP2 := HP.out.free 2
  have fR2 := HR.out.free 2
  have cP3 : w7.cell? ⟨w.heap.size + 1, 3, none⟩ = some (Value.string (bs [])) := HP.out.cell 3 _ rfl
  have cR3 : w7.cell? ⟨w.heap.size, 3, none⟩ = some (Value.string (bs [])) := HR.out.cell 3 _ rfl
  have fP3 := HP.out.free 3
  have fR3 := HR.out.free 3
  have hzP := HP.out.lt
  have hzR := HR.out.lt
  have cS0 : w7.cell? ⟨w6.heap.size, 0, none⟩ = some (.string (bs a)) := HS.out.cell 0 _ rfl
  have cS1 : w7.cell? ⟨w6.heap.size, 1, none⟩ = some (.string (bs b)) := HS.out.cell 1 _ rfl
  have cS2 : w7.cell? ⟨w6.heap.size, 2, none⟩ = some (.string (bs c)) := HS.out.cell 2 _ rfl
  have hzS := HS.out.lt
  go_wp2_with fail
  refine (clean_any a _ HG.out (by omega)).mono ?_
  rintro e w8 ⟨rfl, hk8⟩
  clear cS0 cS1 cS2 hzS
  clear cP0 cR0 fP0 fR0 cP1 cR1 fP1 fR1 cP2 cR2 fP2 fR2 cP3 cR3 fP3 fR3 hzP hzR
  have bS : Blk w8 w6.heap.size 9 #[Value.string (bs a), Value.string (bs b), Value.string (bs c)] := (HS.out).kept hk8
  clear HS
  have HS := Lib.hid bS
  clear bS
  have bP : Blk w8 (w.heap.size + 1) 32 #[Value.string (bs []), Value.string (bs []), Value.string (bs []), Value.string (bs [])] := (HP.out).kept hk8
  have bR : Blk w8 w.heap.size 32 #[Value.string (bs []), Value.string (bs []), Value.string (bs []), Value.string (bs [])] := (HR.out).kept hk8
  have kk : Kept w w8 := (HK.out).trans hk8
  clear HP HR HK HG
  have HP := Lib.hid bP
  have HR := Lib.hid bR
  have HK := Lib.hid kk
  have HG := Lib.hid (hg.kept kk)
  clear bP bR kk hk8
  rw [HFA.out]
  have cP0 : w8.cell? ⟨w.heap.size + 1, 0, none⟩ = some (Value.string (bs [])) := HP.out.cell 0 _ rfl
  have cR0 : w8.cell? ⟨w.heap.size, 0, none⟩ = some (Value.string (bs [])) := HR.out.cell 0 _ rfl
  have fP0 := HP.out.free 0
  have fR0 := HR.out.free 0
  have cP1 : w8.cell? ⟨w.heap.size + 1, 1, none⟩ = some (Value.string (bs [])) := HP.out.cell 1 _ rfl
  have cR1 : w8.cell? ⟨w.heap.size, 1, none⟩ = some (Value.string (bs [])) := HR.out.cell 1 _ rfl
  have fP1 := HP.out.free 1
  have fR1 := HR.out.free 1
  have cP2 : w8.cell? ⟨w.heap.size + 1, 2, none⟩ = some (Value.string (bs [])) := HP.out.cell 2 _ rfl
  have cR2 : w8.cell? ⟨w.heap.size, 2, none⟩ = some (Value.string (bs [])) := HR.out.cell 2 _ rfl
  have fP2 := HP.out.free 2
  have fR2 := HR.out.free 2
  have cP3 : w8.cell? ⟨w.heap.size + 1, 3, none⟩ = some (Value.string (bs [])) := HP.out.cell 3 _ rfl
  have cR3 : w8.cell? ⟨w.heap.size, 3, none⟩ = some (Value.string (bs [])) := HR.out.cell 3 _ rfl
  have fP3 := HP.out.free 3
  have fR3 := HR.out.free 3
  have hzP := HP.out.lt
  have hzR := HR.out.lt
  have cS0 : w8.cell? ⟨w6.heap.size, 0, none⟩ = some (.string (bs a)) := HS.out.cell 0 _ rfl
  have cS1 : w8.cell? ⟨w6.heap.size, 1, none⟩ = some (.string (bs b)) := HS.out.cell 1 _ rfl
  have cS2 : w8.cell? ⟨w6.heap.size, 2, none⟩ = some (.string (bs c)) := HS.out.cell 2 _ rfl
  have hzS := HS.out.lt
  go_wp2_with fail
  clear cS0 cS1 cS2 hzS
  clear cP0 cR0 fP0 fR0 cP1 cR1 fP1 fR1 cP2 cR2 fP2 fR2 cP3 cR3 fP3 fR3 hzP hzR
  obtain ⟨wz, hwz⟩ : ∃ x, x = w8.setCell ⟨w.heap.size + 1, 0, none⟩ (Value.string (bs f)) := ⟨_, rfl⟩
  rw [← hwz]
  have bP : Blk wz (w.heap.size + 1) 32 #[Value.string (bs f), Value.string (bs []), Value.string (bs []), Value.string (bs [])] := by rw [hwz]; exact HP.out.set 0 _
  have bR : Blk wz w.heap.size 32 #[Value.string (bs []), Value.string (bs []), Value.string (bs []), Value.string (bs [])] := by rw [hwz]; exact HR.out.other _ _ _ (by omega)
  have bS : Blk wz w6.heap.size 9 #[Value.string (bs a), Value.string (bs b), Value.string (bs c)] := by rw [hwz]; exact HS.out.other _ _ _ hB
  have kk : Kept w wz := by rw [hwz]; exact kept_set HK.out _ _ _ (by omega)
  clear HP HR HS HK HG
  have HP := Lib.hid bP
  have HR := Lib.hid bR
  have HS := Lib.hid bS
  have HK := Lib.hid kk
  have HG := Lib.hid (hg.kept kk)
  clear bP bR bS kk hwz
  have cP0 : wz.cell? ⟨w.heap.size + 1, 0, none⟩ = some (Value.string (bs f)) := HP.out.cell 0 _ rfl
  have cR0 : wz.cell? ⟨w.heap.size, 0, none⟩ = some (Value.string (bs [])) := HR.out.cell 0 _ rfl
  have fP0 := HP.out.free 0
  have fR0 := HR.out.free 0
  have cP1 : wz.cell? ⟨w.heap.size + 1, 1, none⟩ = some (Value.string (bs [])) := HP.out.cell 1 _ rfl
  have cR1 : wz.cell? ⟨w.heap.size, 1, none⟩ = some (Value.string (bs [])) := HR.out.cell 1 _ rfl
  have fP1 := HP.out.free 1
  have fR1 := HR.out.free 1
  have cP2 : wz.cell? ⟨w.heap.size + 1, 2, none⟩ = some (Value.string (bs [])) := HP.out.cell 2 _ rfl
  have cR2 : wz.cell? ⟨w.heap.size, 2, none⟩ = some (Value.string (bs [])) := HR.out.cell 2 _ rfl
  have fP2 := HP.out.free 2
  have fR2 := HR.out.free 2
  have cP3 : wz.cell? ⟨w.heap.size + 1, 3, none⟩ = some (Value.string (bs [])) := HP.out.cell 3 _ rfl
  have cR3 : wz.cell? ⟨w.heap.size, 3, none⟩ = some (Value.string (bs [])) := HR.out.cell 3 _ rfl
  have fP3 := HP.out.free 3
  have fR3 := HR.out.free 3
  have hzP := HP.out.lt
  have hzR := HR.out.lt
  have cS0 : wz.cell? ⟨w6.heap.size, 0, none⟩ = some (.string (bs a)) := HS.out.cell 0 _ rfl
  have cS1 : wz.cell? ⟨w6.heap.size, 1, none⟩ = some (.string (bs b)) := HS.out.cell 1 _ rfl
  have cS2 : wz.cell? ⟨w6.heap.size, 2, none⟩ = some (.string (bs c)) := HS.out.cell 2 _ rfl
  have hzS := HS.out.lt
  have HK2 : Hid (∀ {w9 : World}, Kept wz.drew w9 → w9.cell? ⟨w6.heap.size, 2, none⟩ = some (.string (bs c)) ∧ Gnd w9 ∧ w6.heap.size < w9.heap.size) := by
    intro w9 hk
    have hk : Kept wz w9 := (kept_drewN wz 1).trans hk
    exact ⟨(HS.out.kept hk).cell 2 _ rfl, HG.out.kept hk, (HS.out.kept hk).lt⟩
  have HK3 : Hid (∀ {w10 : World}, Kept wz w10 → ((w10.cell? ⟨w.heap.size + 1, 0, none⟩ = some (Value.string (bs f))) ∧ (w10.cell? ⟨w.heap.size + 1, 1, none⟩ = some (Value.string (bs []))) ∧ (w10.cell? ⟨w.heap.size + 1, 2, none⟩ = some (Value.string (bs []))) ∧ (w10.cell? ⟨w.heap.size + 1, 3, none⟩ = some (Value.string (bs []))) ∧ (w10.cell? ⟨w.heap.size, 0, none⟩ = some (Value.string (bs []))) ∧ (w10.cell? ⟨w.heap.size, 1, none⟩ = some (Value.string (bs []))) ∧ (w10.cell? ⟨w.heap.size, 2, none⟩ = some (Value.string (bs []))) ∧ (w10.cell? ⟨w.heap.size, 3, none⟩ = some (Value.string (bs []))) ∧ (w10.frozen? ⟨w.heap.size + 1, 0, none⟩ = false) ∧ (w10.frozen? ⟨w.heap.size + 1, 1, none⟩ = false) ∧ (w10.frozen? ⟨w.heap.size + 1, 2, none⟩ = false) ∧ (w10.frozen? ⟨w.heap.size + 1, 3, none⟩ = false) ∧ (w10.frozen? ⟨w.heap.size, 0, none⟩ = false) ∧ (w10.frozen? ⟨w.heap.size, 1, none⟩ = false) ∧ (w10.frozen? ⟨w.heap.size, 2, none⟩ = false) ∧ (w10.frozen? ⟨w.heap.size, 3, none⟩ = false)) ∧ w.heap.size + 1 < w10.heap.size ∧ Kept w w10) := by
    intro w10 hk
    have hP := HP.out.kept hk
    have hR := HR.out.kept hk
    exact ⟨⟨hP.cell 0 _ rfl, hP.cell 1 _ rfl, hP.cell 2 _ rfl, hP.cell 3 _ rfl, hR.cell 0 _ rfl, hR.cell 1 _ rfl, hR.cell 2 _ rfl, hR.cell 3 _ rfl, hP.free 0, hP.free 1, hP.free 2, hP.free 3, hR.free 0, hR.free 1, hR.free 2, hR.free 3⟩, hP.lt, HK.out.trans hk⟩
  clear cP0 cR0 fP0 fR0 cP1 cR1 fP1 fR1 cP2 cR2 fP2 fR2 cP3 cR3 fP3 fR3 hzP hzR
  clear HK HP HR HS
  go_region_with (first
    | (go_at_call_of 139 (Value.string (bs b)); refine (clean_any b _ (by exact HG.out) (by omega)).mono ?_; rintro e w9 ⟨rfl, hk9⟩; rw [HFB.out]; obtain ⟨q1, q2, q3⟩ := HK2.out hk9; have HQ2 := Lib.hid q2; have HK9 := Lib.hid ((kept_drewN wz 1).trans hk9); clear q2 hk9)
    | (go_at_call_of 139 (Value.string (bs c)); refine (clean_any c _ (by exact HQ2.out) (by omega)).mono ?_; rintro e w10 ⟨rfl, hk10⟩; rw [HFC.out]; have HK10 := Lib.hid (HK9.out.trans hk10); clear hk10; obtain ⟨⟨q0, q1, q2, q3, q4, q5, q6, q7, q8, q9, q10, q11, q12, q13, q14, q15⟩, q20, q21⟩ := HK3.out HK10.out; have HKF := Lib.hid q21; clear q21))
  all_goals
    go_wp2_with fail
    refine bodyPost_ret (v := .tuple #[persV f g [] s, .int .i64 0]) ?_ rfl ⟨rfl, ?_⟩
    · clear HK2 HK3 HK9 HK10 HKF
      simp [results, Tryz.results144, go_sem, q0, q1, q2, q3, q4, q5, q6, q7, q8, q9, q10, q11, q12, q13, q14, q15, q20]
    · exact kept_set (kept_set (kept_set (kept_set (kept_set (kept_set (HKF.out) _ _ _ (by omega)) _ _ _ (by omega)) _ _ _ (by omega)) _ _ _ (by omega)) _ _ _ (by omega)) _ _ _ (by omega)

set_option maxRecDepth 100000 in
set_option maxHeartbeats 3200000 in
theorem parse_none3_n (l : Bs) (w : World) (hg : Gnd w) (hs : l.length ≤ 1000000) (hl : lineB l = true) (t : Bs) (HC : Hid (cleanL l = t)) (HNB : Hid (∀ r, t ≠ 123 :: r)) (ht : t.length ≤ 1000001) (hcnt : t.count 44 ≤ 2) (HA1 : Hid (([] : Bs).any (inSet setC) = false)) (HA2 : Hid (t.any (inSet setN) = false)) (a b c : Bs) (HSP : Hid (splitC 44 t = [a, b, c])) (ha : a.length ≤ 1000010) (hb : b.length ≤ 1000010) (hc : c.length ≤ 1000010) (HFA : Hid (cleanL a = [])) (s : Bs) (HFB : Hid (cleanL b = s)) (g : Bs) (HFC : Hid (cleanL c = g))  :
    Calls Tryz.prog 144 #[.string (bs l)] w fun e w' => e = .returned (.tuple #[persV [] [] [] [], .int .i64 8]) ∧ Kept w w' := by
  have hcl := cleanL_le l
  go_enter Tryz.func144, Tryz.ntmps144
  go_wp2_with fail
  refine (line_any l _ (by omega)).mono ?_
  rintro e w1 ⟨rfl, n, rfl⟩
  rw [hl]
  go_wp2_with fail
  refine (clean_any l _ (hg.kept (((kept_alloc w _).trans (kept_alloc _ _)).trans (kept_drewN _ n))) (by omega)).mono ?_
  rintro e w2 ⟨rfl, hk2⟩
  have HP0 := Lib.hid ((Blk.new (w.alloc (.cells #[Value.string (bs []), Value.string (bs []), Value.string (bs []), Value.string (bs [])] 32)) 32 #[Value.string (bs []), Value.string (bs []), Value.string (bs []), Value.string (bs [])]).drewN n)
  have bP : Blk w2 (w.heap.size + 1) 32 #[Value.string (bs []), Value.string (bs []), Value.string (bs []), Value.string (bs [])] := by have := HP0.out.kept hk2; simpa using this
  have bR : Blk w2 w.heap.size 32 #[Value.string (bs []), Value.string (bs []), Value.string (bs []), Value.string (bs [])] := (((Blk.new w 32 #[Value.string (bs []), Value.string (bs []), Value.string (bs []), Value.string (bs [])]).alloc _).drewN n).kept hk2
  have kk : Kept w w2 := (((kept_alloc w _).trans (kept_alloc _ _)).trans (kept_drewN _ n)).trans hk2
  clear HP0
  have HP := Lib.hid bP
  have HR := Lib.hid bR
  have HK := Lib.hid kk
  have HG := Lib.hid (hg.kept kk)
  clear bP bR kk hk2
  rw [HC.out]
  go_wp2_with fail
  refine (cutp_no t 123 _ HNB.out).mono ?_
  rintro e w' ⟨rfl, rfl⟩
  have cP0 : w2.cell? ⟨w.heap.size + 1, 0, none⟩ = some (Value.string (bs [])) := HP.out.cell 0 _ rfl
  have cR0 : w2.cell? ⟨w.heap.size, 0, none⟩ = some (Value.string (bs [])) := HR.out.cell 0 _ rfl
  have fP0 := HP.out.free 0
  have fR0 := HR.out.free 0
  have cP1 : w2.cell? ⟨w.heap.size + 1, 1, none⟩ = some (Value.string (bs [])) := HP.out.cell 1 _ rfl
  have cR1 : w2.cell? ⟨w.heap.size, 1, none⟩ = some (Value.string (bs [])) := HR.out.cell 1 _ rfl
  have fP1 := HP.out.free 1
  have fR1 := HR.out.free 1
  have cP2 : w2.cell? ⟨w.heap.size + 1, 2, none⟩ = some (Value.string (bs [])) := HP.out.cell 2 _ rfl
  have cR2 : w2.cell? ⟨w.heap.size, 2, none⟩ = some (Value.string (bs [])) := HR.out.cell 2 _ rfl
  have fP2 := HP.out.free 2
  have fR2 := HR.out.free 2
  have cP3 : w2.cell? ⟨w.heap.size + 1, 3, none⟩ = some (Value.string (bs [])) := HP.out.cell 3 _ rfl
  have cR3 : w2.cell? ⟨w.heap.size, 3, none⟩ = some (Value.string (bs [])) := HR.out.cell 3 _ rfl
  have fP3 := HP.out.free 3
  have fR3 := HR.out.free 3
  have hzP := HP.out.lt
  have hzR := HR.out.lt
  go_wp2_with fail
  refine (count_any t 44 _).mono ?_
  rintro e w' ⟨rfl, rfl⟩
  go_wp2_with fail
  have HSC : Hid (setC = [44, 59, 123, 125]) := rfl
  have HSN : Hid (setN = [59, 123, 125]) := rfl
  rw [← HSC.out]
  refine (cany_any [] setC _ asciiC  (by decide) (by decide) (by simp)).mono ?_
  rintro e w5 ⟨rfl, hk5⟩
  rw [HA1.out]
  clear cP0 cR0 fP0 fR0 cP1 cR1 fP1 fR1 cP2 cR2 fP2 fR2 cP3 cR3 fP3 fR3 hzP hzR
  have bP : Blk w5 (w.heap.size + 1) 32 #[Value.string (bs []), Value.string (bs []), Value.string (bs []), Value.string (bs [])] := (HP.out).kept hk5
  have bR : Blk w5 w.heap.size 32 #[Value.string (bs []), Value.string (bs []), Value.string (bs []), Value.string (bs [])] := (HR.out).kept hk5
  have kk : Kept w w5 := (HK.out).trans hk5
  clear HP HR HK HG
  have HP := Lib.hid bP
  have HR := Lib.hid bR
  have HK := Lib.hid kk
  have HG := Lib.hid (hg.kept kk)
  clear bP bR kk hk5
  have cP0 : w5.cell? ⟨w.heap.size + 1, 0, none⟩ = some (Value.string (bs [])) := HP.out.cell 0 _ rfl
  have cR0 : w5.cell? ⟨w.heap.size, 0, none⟩ = some (Value.string (bs [])) := HR.out.cell 0 _ rfl
  have fP0 := HP.out.free 0
  have fR0 := HR.out.free 0
  have cP1 : w5.cell? ⟨w.heap.size + 1, 1, none⟩ = some (Value.string (bs [])) := HP.out.cell 1 _ rfl
  have cR1 : w5.cell? ⟨w.heap.size, 1, none⟩ = some (Value.string (bs [])) := HR.out.cell 1 _ rfl
  have fP1 := HP.out.free 1
  have fR1 := HR.out.free 1
  have cP2 : w5.cell? ⟨w.heap.size + 1, 2, none⟩ = some (Value.string (bs [])) := HP.out.cell 2 _ rfl
  have cR2 : w5.cell? ⟨w.heap.size, 2, none⟩ = some (Value.string (bs [])) := HR.out.cell 2 _ rfl
  have fP2 := HP.out.free 2
  have fR2 := HR.out.free 2
  have cP3 : w5.cell? ⟨w.heap.size + 1, 3, none⟩ = some (Value.string (bs [])) := HP.out.cell 3 _ rfl
  have cR3 : w5.cell? ⟨w.heap.size, 3, none⟩ = some (Value.string (bs [])) := HR.out.cell 3 _ rfl
  have fP3 := HP.out.free 3
  have fR3 := HR.out.free 3
  have hzP := HP.out.lt
  have hzR := HR.out.lt
  go_wp2_with fail
  rw [← HSN.out]
  refine (cany_any t setN _ asciiN (by decide) (by decide) (by omega)).mono ?_
  rintro e w6 ⟨rfl, hk6⟩
  rw [HA2.out]
  clear cP0 cR0 fP0 fR0 cP1 cR1 fP1 fR1 cP2 cR2 fP2 fR2 cP3 cR3 fP3 fR3 hzP hzR
  have bP : Blk w6 (w.heap.size + 1) 32 #[Value.string (bs []), Value.string (bs []), Value.string (bs []), Value.string (bs [])] := (HP.out).kept hk6
  have bR : Blk w6 w.heap.size 32 #[Value.string (bs []), Value.string (bs []), Value.string (bs []), Value.string (bs [])] := (HR.out).kept hk6
  have kk : Kept w w6 := (HK.out).trans hk6
  clear HP HR HK HG
  have HP := Lib.hid bP
  have HR := Lib.hid bR
  have HK := Lib.hid kk
  have HG := Lib.hid (hg.kept kk)
  clear bP bR kk hk6
  have cP0 : w6.cell? ⟨w.heap.size + 1, 0, none⟩ = some (Value.string (bs [])) := HP.out.cell 0 _ rfl
  have cR0 : w6.cell? ⟨w.heap.size, 0, none⟩ = some (Value.string (bs [])) := HR.out.cell 0 _ rfl
  have fP0 := HP.out.free 0
  have fR0 := HR.out.free 0
  have cP1 : w6.cell? ⟨w.heap.size + 1, 1, none⟩ = some (Value.string (bs [])) := HP.out.cell 1 _ rfl
  have cR1 : w6.cell? ⟨w.heap.size, 1, none⟩ = some (Value.string (bs [])) := HR.out.cell 1 _ rfl
  have fP1 := HP.out.free 1
  have fR1 := HR.out.free 1
  have cP2 : w6.cell? ⟨w.heap.size + 1, 2, none⟩ = some (Value.string (bs [])) := HP.out.cell 2 _ rfl
  have cR2 : w6.cell? ⟨w.heap.size, 2, none⟩ = some (Value.string (bs [])) := HR.out.cell 2 _ rfl
  have fP2 := HP.out.free 2
  have fR2 := HR.out.free 2
  have cP3 : w6.cell? ⟨w.heap.size + 1, 3, none⟩ = some (Value.string (bs [])) := HP.out.cell 3 _ rfl
  have cR3 : w6.cell? ⟨w.heap.size, 3, none⟩ = some (Value.string (bs [])) := HR.out.cell 3 _ rfl
  have fP3 := HP.out.free 3
  have fR3 := HR.out.free 3
  have hzP := HP.out.lt
  have hzR := HR.out.lt
  go_wp2_with fail
  refine (split_any t 44 _ HG.out (by omega)).mono ?_
  rintro e w7 ⟨rfl, hw7⟩
  have hk7 : Kept w6 w7 := by rw [hw7]; exact kept_alloc _ _
  have bS : Blk w7 w6.heap.size 9 (strCells (splitC 44 t)).toArray := by rw [hw7]; exact Blk.new _ _ _
  have hB : w6.heap.size ≠ w.heap.size + 1 := by omega
  clear cP0 cR0 fP0 fR0 cP1 cR1 fP1 fR1 cP2 cR2 fP2 fR2 cP3 cR3 fP3 fR3 hzP hzR
  have bP : Blk w7 (w.heap.size + 1) 32 #[Value.string (bs []), Value.string (bs []), Value.string (bs []), Value.string (bs [])] := (HP.out).kept hk7
  have bR : Blk w7 w.heap.size 32 #[Value.string (bs []), Value.string (bs []), Value.string (bs []), Value.string (bs [])] := (HR.out).kept hk7
  have kk : Kept w w7 := (HK.out).trans hk7
  clear HP HR HK HG
  have HP := Lib.hid bP
  have HR := Lib.hid bR
  have HK := Lib.hid kk
  have HG := Lib.hid (hg.kept kk)
  clear bP bR kk hk7
  clear hw7
  rw [HSP.out]
  rw [HSP.out] at bS
  have HS : Hid (Blk w7 w6.heap.size 9 #[Value.string (bs a), Value.string (bs b), Value.string (bs c)]) := bS
  clear bS
  have cP0 : w7.cell? ⟨w.heap.size + 1, 0, none⟩ = some (Value.string (bs [])) := HP.out.cell 0 _ rfl
  have cR0 : w7.cell? ⟨w.heap.size, 0, none⟩ = some (Value.string (bs [])) := HR.out.cell 0 _ rfl
  have fP0 := HP.out.free 0
  have fR0 := HR.out.free 0
  have cP1 : w7.cell? ⟨w.heap.size + 1, 1, none⟩ = some (Value.string (bs [])) := HP.out.cell 1 _ rfl
  have cR1 : w7.cell? ⟨w.heap.size, 1, none⟩ = some (Value.string (bs [])) := HR.out.cell 1 _ rfl
  have fP1 := HP.out.free 1
  have fR1 := HR.out.free 1
  have cP2 : w7.cell? ⟨w.heap.size + 1, 2, none⟩ = some (Value.string (bs [])) := HP.out.cell 2 _ rfl
  have cR2 : w7.cell? ⟨w.heap.size, 2, none⟩ = some (Value.string (bs [])) := HR.out.cell 2 _ rfl
  have fP2 := HP.out.free 2
  have fR2 := HR.out.free 2
  have cP3 : w7.cell? ⟨w.heap.size + 1, 3, none⟩ = some (Value.string (bs [])) := HP.out.cell 3 _ rfl
  have cR3 : w7.cell? ⟨w.heap.size, 3, none⟩ = some (Value.string (bs [])) := HR.out.cell 3 _ rfl
  have fP3 := HP.out.free 3
  have fR3 := HR.out.free 3
  have hzP := HP.out.lt
  have hzR := HR.out.lt
  have cS0 : w7.cell? ⟨w6.heap.size, 0, none⟩ = some (.string (bs a)) := HS.out.cell 0 _ rfl
  have cS1 : w7.cell? ⟨w6.heap.size, 1, none⟩ = some (.string (bs b)) := HS.out.cell 1 _ rfl
  have cS2 : w7.cell? ⟨w6.heap.size, 2, none⟩ = some (.string (bs c)) := HS.out.cell 2 _ rfl
  have hzS := HS.out.lt
  go_wp2_with fail
  refine (clean_any a _ HG.out (by omega)).mono ?_
  rintro e w8 ⟨rfl, hk8⟩
  clear cS0 cS1 cS2 hzS
  clear cP0 cR0 fP0 fR0 cP1 cR1 fP1 fR1 cP2 cR2 fP2 fR2 cP3 cR3 fP3 fR3 hzP hzR
  have bS : Blk w8 w6.heap.size 9 #[Value.string (bs a), Value.string (bs b), Value.string (bs c)] := (HS.out).kept hk8
  clear HS
  have HS := Lib.hid bS
  clear bS
  have bP : Blk w8 (w.heap.size + 1) 32 #[Value.string (bs []), Value.string (bs []), Value.string (bs []), Value.string (bs [])] := (HP.out).kept hk8
  have bR : Blk w8 w.heap.size 32 #[Value.string (bs []), Value.string (bs []), Value.string (bs []), Value.string (bs [])] := (HR.out).kept hk8
  have kk : Kept w w8 := (HK.out).trans hk8
  clear HP HR HK HG
  have HP := Lib.hid bP
  have HR := Lib.hid bR
  have HK := Lib.hid kk
  have HG := Lib.hid (hg.kept kk)
  clear bP bR kk hk8
  rw [HFA.out]
  have cP0 : w8.cell? ⟨w.heap.size + 1, 0, none⟩ = some (Value.string (bs [])) := HP.out.cell 0 _ rfl
  have cR0 : w8.cell? ⟨w.heap.size, 0, none⟩ = some (Value.string (bs [])) := HR.out.cell 0 _ rfl
  have fP0 := HP.out.free 0
  have fR0 := HR.out.free 0
  have cP1 : w8.cell? ⟨w.heap.size + 1, 1, none⟩ = some (Value.string (bs [])) := HP.out.cell 1 _ rfl
  have cR1 : w8.cell? ⟨w.heap.size, 1, none⟩ = some (Value.string (bs [])) := HR.out.cell 1 _ rfl
  have fP1 := HP.out.free 1
  have fR1 := HR.out.free 1
  have cP2 : w8.cell? ⟨w.heap.size + 1, 2, none⟩ = some (Value.string (bs [])) := HP.out.cell 2 _ rfl
  have cR2 : w8.cell? ⟨w.heap.size, 2, none⟩ = some (Value.string (bs [])) := HR.out.cell 2 _ rfl
  have fP2 := HP.out.free 2
  have fR2 := HR.out.free 2
  have cP3 : w8.cell? ⟨w.heap.size + 1, 3, none⟩ = some (Value.string (bs [])) := HP.out.cell 3 _ rfl
  have cR3 : w8.cell? ⟨w.heap.size, 3, none⟩ = some (Value.string (bs [])) := HR.out.cell 3 _ rfl
  have fP3 := HP.out.free 3
  have fR3 := HR.out.free 3
  have hzP := HP.out.lt
  have hzR := HR.out.lt
  have cS0 : w8.cell? ⟨w6.heap.size, 0, none⟩ = some (.string (bs a)) := HS.out.cell 0 _ rfl
  have cS1 : w8.cell? ⟨w6.heap.size, 1, none⟩ = some (.string (bs b)) := HS.out.cell 1 _ rfl
  have cS2 : w8.cell? ⟨w6.heap.size, 2, none⟩ = some (.string (bs c)) := HS.out.cell 2 _ rfl
  have hzS := HS.out.lt
  go_wp2_with fail
  clear cS0 cS1 cS2 hzS
  clear cP0 cR0 fP0 fR0 cP1 cR1 fP1 fR1 cP2 cR2 fP2 fR2 cP3 cR3 fP3 fR3 hzP hzR
  obtain ⟨wz, hwz⟩ : ∃ x, x = w8.setCell ⟨w.heap.size + 1, 0, none⟩ (Value.string (bs [])) := ⟨_, rfl⟩
  rw [← hwz]
  have bP : Blk wz (w.heap.size + 1) 32 #[Value.string (bs []), Value.string (bs []), Value.string (bs []), Value.string (bs [])] := by rw [hwz]; exact HP.out.set 0 _
  have bR : Blk wz w.heap.size 32 #[Value.string (bs []), Value.string (bs []), Value.string (bs []), Value.string (bs [])] := by rw [hwz]; exact HR.out.other _ _ _ (by omega)
  have bS : Blk wz w6.heap.size 9 #[Value.string (bs a), Value.string (bs b), Value.string (bs c)] := by rw [hwz]; exact HS.out.other _ _ _ hB
  have kk : Kept w wz := by rw [hwz]; exact kept_set HK.out _ _ _ (by omega)
  clear HP HR HS HK HG
  have HP := Lib.hid bP
  have HR := Lib.hid bR
  have HS := Lib.hid bS
  have HK := Lib.hid kk
  have HG := Lib.hid (hg.kept kk)
  clear bP bR bS kk hwz
  have cP0 : wz.cell? ⟨w.heap.size + 1, 0, none⟩ = some (Value.string (bs [])) := HP.out.cell 0 _ rfl
  have cR0 : wz.cell? ⟨w.heap.size, 0, none⟩ = some (Value.string (bs [])) := HR.out.cell 0 _ rfl
  have fP0 := HP.out.free 0
  have fR0 := HR.out.free 0
  have cP1 : wz.cell? ⟨w.heap.size + 1, 1, none⟩ = some (Value.string (bs [])) := HP.out.cell 1 _ rfl
  have cR1 : wz.cell? ⟨w.heap.size, 1, none⟩ = some (Value.string (bs [])) := HR.out.cell 1 _ rfl
  have fP1 := HP.out.free 1
  have fR1 := HR.out.free 1
  have cP2 : wz.cell? ⟨w.heap.size + 1, 2, none⟩ = some (Value.string (bs [])) := HP.out.cell 2 _ rfl
  have cR2 : wz.cell? ⟨w.heap.size, 2, none⟩ = some (Value.string (bs [])) := HR.out.cell 2 _ rfl
  have fP2 := HP.out.free 2
  have fR2 := HR.out.free 2
  have cP3 : wz.cell? ⟨w.heap.size + 1, 3, none⟩ = some (Value.string (bs [])) := HP.out.cell 3 _ rfl
  have cR3 : wz.cell? ⟨w.heap.size, 3, none⟩ = some (Value.string (bs [])) := HR.out.cell 3 _ rfl
  have fP3 := HP.out.free 3
  have fR3 := HR.out.free 3
  have hzP := HP.out.lt
  have hzR := HR.out.lt
  have cS0 : wz.cell? ⟨w6.heap.size, 0, none⟩ = some (.string (bs a)) := HS.out.cell 0 _ rfl
  have cS1 : wz.cell? ⟨w6.heap.size, 1, none⟩ = some (.string (bs b)) := HS.out.cell 1 _ rfl
  have cS2 : wz.cell? ⟨w6.heap.size, 2, none⟩ = some (.string (bs c)) := HS.out.cell 2 _ rfl
  have hzS := HS.out.lt
  have HK2 : Hid (∀ {w9 : World}, Kept wz.drew w9 → w9.cell? ⟨w6.heap.size, 2, none⟩ = some (.string (bs c)) ∧ Gnd w9 ∧ w6.heap.size < w9.heap.size) := by
    intro w9 hk
    have hk : Kept wz w9 := (kept_drewN wz 1).trans hk
    exact ⟨(HS.out.kept hk).cell 2 _ rfl, HG.out.kept hk, (HS.out.kept hk).lt⟩
  have HK3 : Hid (∀ {w10 : World}, Kept wz w10 → ((w10.cell? ⟨w.heap.size + 1, 0, none⟩ = some (Value.string (bs []))) ∧ (w10.cell? ⟨w.heap.size + 1, 1, none⟩ = some (Value.string (bs []))) ∧ (w10.cell? ⟨w.heap.size + 1, 2, none⟩ = some (Value.string (bs []))) ∧ (w10.cell? ⟨w.heap.size + 1, 3, none⟩ = some (Value.string (bs []))) ∧ (w10.cell? ⟨w.heap.size, 0, none⟩ = some (Value.string (bs []))) ∧ (w10.cell? ⟨w.heap.size, 1, none⟩ = some (Value.string (bs []))) ∧ (w10.cell? ⟨w.heap.size, 2, none⟩ = some (Value.string (bs []))) ∧ (w10.cell? ⟨w.heap.size, 3, none⟩ = some (Value.string (bs []))) ∧ (w10.frozen? ⟨w.heap.size + 1, 0, none⟩ = false) ∧ (w10.frozen? ⟨w.heap.size + 1, 1, none⟩ = false) ∧ (w10.frozen? ⟨w.heap.size + 1, 2, none⟩ = false) ∧ (w10.frozen? ⟨w.heap.size + 1, 3, none⟩ = false) ∧ (w10.frozen? ⟨w.heap.size, 0, none⟩ = false) ∧ (w10.frozen? ⟨w.heap.size, 1, none⟩ = false) ∧ (w10.frozen? ⟨w.heap.size, 2, none⟩ = false) ∧ (w10.frozen? ⟨w.heap.size, 3, none⟩ = false)) ∧ w.heap.size + 1 < w10.heap.size ∧ Kept w w10) := by
    intro w10 hk
    have hP := HP.out.kept hk
    have hR := HR.out.kept hk
    exact ⟨⟨hP.cell 0 _ rfl, hP.cell 1 _ rfl, hP.cell 2 _ rfl, hP.cell 3 _ rfl, hR.cell 0 _ rfl, hR.cell 1 _ rfl, hR.cell 2 _ rfl, hR.cell 3 _ rfl, hP.free 0, hP.free 1, hP.free 2, hP.free 3, hR.free 0, hR.free 1, hR.free 2, hR.free 3⟩, hP.lt, HK.out.trans hk⟩
  clear cP0 cR0 fP0 fR0 cP1 cR1 fP1 fR1 cP2 cR2 fP2 fR2 cP3 cR3 fP3 fR3 hzP hzR
  clear HK HP HR HS
  go_region_with (first
    | (go_at_call_of 139 (Value.string (bs b)); refine (clean_any b _ (by exact HG.out) (by omega)).mono ?_; rintro e w9 ⟨rfl, hk9⟩; rw [HFB.out]; obtain ⟨q1, q2, q3⟩ := HK2.out hk9; have HQ2 := Lib.hid q2; have HK9 := Lib.hid ((kept_drewN wz 1).trans hk9); clear q2 hk9)
    | (go_at_call_of 139 (Value.string (bs c)); refine (clean_any c _ (by exact HQ2.out) (by omega)).mono ?_; rintro e w10 ⟨rfl, hk10⟩; rw [HFC.out]; have HK10 := Lib.hid (HK9.out.trans hk10); clear hk10; obtain ⟨⟨q0, q1, q2, q3, q4, q5, q6, q7, q8, q9, q10, q11, q12, q13, q14, q15⟩, q20, q21⟩ := HK3.out HK10.out; have HKF := Lib.hid q21; clear q21))
  all_goals
    go_wp2_with fail
    refine bodyPost_ret (v := .tuple #[persV [] [] [] [], .int .i64 8]) ?_ rfl ⟨rfl, ?_⟩
    · clear HK2 HK3 HK9 HK10 HKF
      simp [results, Tryz.results144, go_sem, q0, q1, q2, q3, q4, q5, q6, q7, q8, q9, q10, q11, q12, q13, q14, q15, q20]
    · exact kept_set (kept_set (kept_set (kept_set (kept_set (kept_set (HKF.out) _ _ _ (by omega)) _ _ _ (by omega)) _ _ _ (by omega)) _ _ _ (by omega)) _ _ _ (by omega)) _ _ _ (by omega)

set_option maxRecDepth 100000 in
set_option maxHeartbeats 3200000 in
theorem parse_ok3_b (l : Bs) (w : World) (hg : Gnd w) (hs : l.length ≤ 1000000) (hl : lineB l = true) (r p t : Bs) (HC : Hid (cleanL l = 123 :: r)) (hr : r.length ≤ 1000001) (hbr : before 125 r < r.length) (HPC : Hid (cleanL (r.take (before 125 r)) = p)) (HRC : Hid (r.drop (before 125 r + 1) = t)) (hpl : p.length ≤ 1000010) (ht : t.length ≤ 1000001) (hcnt : t.count 44 ≤ 2) (HA1 : Hid ((p : Bs).any (inSet setC) = false)) (HA2 : Hid (t.any (inSet setN) = false)) (a b c : Bs) (HSP : Hid (splitC 44 t = [a, b, c])) (ha : a.length ≤ 1000010) (hb : b.length ≤ 1000010) (hc : c.length ≤ 1000010) (f : Bs) (HFA : Hid (cleanL a = f)) (s : Bs) (HFB : Hid (cleanL b = s)) (g : Bs) (HFC : Hid (cleanL c = g)) (hf : ¬ f = []) (hfe : f.isEmpty = false) :
    Calls Tryz.prog 144 #[.string (bs l)] w fun e w' => e = .returned (.tuple #[persV f g p s, .int .i64 0]) ∧ Kept w w' := by
  have hcl := cleanL_le l
  go_enter Tryz.func144, Tryz.ntmps144
  go_wp2_with fail
  refine (line_any l _ (by omega)).mono ?_
  rintro e w1 ⟨rfl, n, rfl⟩
  rw [hl]
  go_wp2_with fail
  refine (clean_any l _ (hg.kept (((kept_alloc w _).trans (kept_alloc _ _)).trans (kept_drewN _ n))) (by omega)).mono ?_
  rintro e w2 ⟨rfl, hk2⟩
  have HP0 := Lib.hid ((Blk.new (w.alloc (.cells #[Value.string (bs []), Value.string (bs []), Value.string (bs []), Value.string (bs [])] 32)) 32 #[Value.string (bs []), Value.string (bs []), Value.string (bs []), Value.string (bs [])]).drewN n)
  have bP : Blk w2 (w.heap.size + 1) 32 #[Value.string (bs []), Value.string (bs []), Value.string (bs []), Value.string (bs [])] := by have := HP0.out.kept hk2; simpa using this
  have bR : Blk w2 w.heap.size 32 #[Value.string (bs []), Value.string (bs []), Value.string (bs []), Value.string (bs [])] := (((Blk.new w 32 #[Value.string (bs []), Value.string (bs []), Value.string (bs []), Value.string (bs [])]).alloc _).drewN n).kept hk2
  have kk : Kept w w2 := (((kept_alloc w _).trans (kept_alloc _ _)).trans (kept_drewN _ n)).trans hk2
  clear HP0
  have HP := Lib.hid bP
  have HR := Lib.hid bR
  have HK := Lib.hid kk
  have HG := Lib.hid (hg.kept kk)
  clear bP bR kk hk2
  rw [HC.out]
  go_wp2_with fail
  refine (cutp_yes r 123 _).mono ?_
  rintro e w' ⟨rfl, rfl⟩
  go_wp2_with fail
  refine (cut_any r 125 _ HG.out (by omega)).mono ?_
  rintro e w3 ⟨rfl, m, rfl⟩
  rw [if_pos hbr]
  go_wp2_with fail
  refine (clean_any (r.take (before 125 r)) _ (by exact HG.out) (by simp; omega)).mono ?_
  rintro e w4 ⟨rfl, hk4'⟩
  have hk4 := (kept_drewN w2 m).trans hk4'
  clear hk4'
  have bP : Blk w4 (w.heap.size + 1) 32 #[Value.string (bs []), Value.string (bs []), Value.string (bs []), Value.string (bs [])] := (HP.out).kept hk4
  have bR : Blk w4 w.heap.size 32 #[Value.string (bs []), Value.string (bs []), Value.string (bs []), Value.string (bs [])] := (HR.out).kept hk4
  have kk : Kept w w4 := (HK.out).trans hk4
  clear HP HR HK HG
  have HP := Lib.hid bP
  have HR := Lib.hid bR
  have HK := Lib.hid kk
  have HG := Lib.hid (hg.kept kk)
  clear bP bR kk hk4
  rw [HPC.out, HRC.out]
  have cP0 : w4.cell? ⟨w.heap.size + 1, 0, none⟩ = some (Value.string (bs [])) := HP.out.cell 0 _ rfl
  have cR0 : w4.cell? ⟨w.heap.size, 0, none⟩ = some (Value.string (bs [])) := HR.out.cell 0 _ rfl
  have fP0 := HP.out.free 0
  have fR0 := HR.out.free 0
  have cP1 : w4.cell? ⟨w.heap.size + 1, 1, none⟩ = some (Value.string (bs [])) := HP.out.cell 1 _ rfl
  have cR1 : w4.cell? ⟨w.heap.size, 1, none⟩ = some (Value.string (bs [])) := HR.out.cell 1 _ rfl
  have fP1 := HP.out.free 1
  have fR1 := HR.out.free 1
  have cP2 : w4.cell? ⟨w.heap.size + 1, 2, none⟩ = some (Value.string (bs [])) := HP.out.cell 2 _ rfl
  have cR2 : w4.cell? ⟨w.heap.size, 2, none⟩ = some (Value.string (bs [])) := HR.out.cell 2 _ rfl
  have fP2 := HP.out.free 2
  have fR2 := HR.out.free 2
  have cP3 : w4.cell? ⟨w.heap.size + 1, 3, none⟩ = some (Value.string (bs [])) := HP.out.cell 3 _ rfl
  have cR3 : w4.cell? ⟨w.heap.size, 3, none⟩ = some (Value.string (bs [])) := HR.out.cell 3 _ rfl
  have fP3 := HP.out.free 3
  have fR3 := HR.out.free 3
  have hzP := HP.out.lt
  have hzR := HR.out.lt
  go_wp2_with fail
  refine (count_any t 44 _).mono ?_
  rintro e w' ⟨rfl, rfl⟩
  go_wp2_with fail
  have HSC : Hid (setC = [44, 59, 123, 125]) := rfl
  have HSN : Hid (setN = [59, 123, 125]) := rfl
  rw [← HSC.out]
  refine (cany_any p setC _ asciiC (by decide) (by decide) (by omega)).mono ?_
  rintro e w5 ⟨rfl, hk5⟩
  rw [HA1.out]
  clear cP0 cR0 fP0 fR0 cP1 cR1 fP1 fR1 cP2 cR2 fP2 fR2 cP3 cR3 fP3 fR3 hzP hzR
  have bP : Blk w5 (w.heap.size + 1) 32 #[Value.string (bs []), Value.string (bs []), Value.string (bs p), Value.string (bs [])] := ((HP.out).set 2 (Value.string (bs p))).kept hk5
  have bR : Blk w5 w.heap.size 32 #[Value.string (bs []), Value.string (bs []), Value.string (bs []), Value.string (bs [])] := ((HR.out).other (w.heap.size + 1) 2 (Value.string (bs p)) (by omega)).kept hk5
  have kk : Kept w w5 := (kept_set (HK.out) (w.heap.size + 1) 2 (Value.string (bs p)) (by omega)).trans hk5
  clear HP HR HK HG
  have HP := Lib.hid bP
  have HR := Lib.hid bR
  have HK := Lib.hid kk
  have HG := Lib.hid (hg.kept kk)
  clear bP bR kk hk5
  have cP0 : w5.cell? ⟨w.heap.size + 1, 0, none⟩ = some (Value.string (bs [])) := HP.out.cell 0 _ rfl
  have cR0 : w5.cell? ⟨w.heap.size, 0, none⟩ = some (Value.string (bs [])) := HR.out.cell 0 _ rfl
  have fP0 := HP.out.free 0
  have fR0 := HR.out.free 0
  have cP1 : w5.cell? ⟨w.heap.size + 1, 1, none⟩ = some (Value.string (bs [])) := HP.out.cell 1 _ rfl
  have cR1 : w5.cell? ⟨w.heap.size, 1, none⟩ = some (Value.string (bs [])) := HR.out.cell 1 _ rfl
  have fP1 := HP.out.free 1
  have fR1 := HR.out.free 1
  have cP2 : w5.cell? ⟨w.heap.size + 1, 2, none⟩ = some (Value.string (bs p)) := HP.out.cell 2 _ rfl
  have cR2 : w5.cell? ⟨w.heap.size, 2, none⟩ = some (Value.string (bs [])) := HR.out.cell 2 _ rfl
  have fP2 := HP.out.free 2
  have fR2 := HR.out.free 2
  have cP3 : w5.cell? ⟨w.heap.size + 1, 3, none⟩ = some (Value.string (bs [])) := HP.out.cell 3 _ rfl
  have cR3 : w5.cell? ⟨w.heap.size, 3, none⟩ = some (Value.string (bs [])) := HR.out.cell 3 _ rfl
  have fP3 := HP.out.free 3
  have fR3 := HR.out.free 3
  have hzP := HP.out.lt
  have hzR := HR.out.lt
  go_wp2_with fail
  rw [← HSN.out]
  refine (cany_any t setN _ asciiN (by decide) (by decide) (by omega)).mono ?_
  rintro e w6 ⟨rfl, hk6⟩
  rw [HA2.out]
  clear cP0 cR0 fP0 fR0 cP1 cR1 fP1 fR1 cP2 cR2 fP2 fR2 cP3 cR3 fP3 fR3 hzP hzR
  have bP : Blk w6 (w.heap.size + 1) 32 #[Value.string (bs []), Value.string (bs []), Value.string (bs p), Value.string (bs [])] := (HP.out).kept hk6
  have bR : Blk w6 w.heap.size 32 #[Value.string (bs []), Value.string (bs []), Value.string (bs []), Value.string (bs [])] := (HR.out).kept hk6
  have kk : Kept w w6 := (HK.out).trans hk6
  clear HP HR HK HG
  have HP := Lib.hid bP
  have HR := Lib.hid bR
  have HK := Lib.hid kk
  have HG := Lib.hid (hg.kept kk)
  clear bP bR kk hk6
  have cP0 : w6.cell? ⟨w.heap.size + 1, 0, none⟩ = some (Value.string (bs [])) := HP.out.cell 0 _ rfl
  have cR0 : w6.cell? ⟨w.heap.size, 0, none⟩ = some (Value.string (bs [])) := HR.out.cell 0 _ rfl
  have fP0 := HP.out.free 0
  have fR0 := HR.out.free 0
  have cP1 : w6.cell? ⟨w.heap.size + 1, 1, none⟩ = some (Value.string (bs [])) := HP.out.cell 1 _ rfl
  have cR1 : w6.cell? ⟨w.heap.size, 1, none⟩ = some (Value.string (bs [])) := HR.out.cell 1 _ rfl
  have fP1 := HP.out.free 1
  have fR1 := HR.out.free 1
  have cP2 : w6.cell? ⟨w.heap.size + 1, 2, none⟩ = some (Value.string (bs p)) := HP.out.cell 2 _ rfl
  have cR2 : w6.cell? ⟨w.heap.size, 2, none⟩ = some (Value.string (bs [])) := HR.out.cell 2 _ rfl
  have fP2 := HP.out.free 2
  have fR2 := HR.out.free 2
  have cP3 : w6.cell? ⟨w.heap.size + 1, 3, none⟩ = some (Value.string (bs [])) := HP.out.cell 3 _ rfl
  have cR3 : w6.cell? ⟨w.heap.size, 3, none⟩ = some (Value.string (bs [])) := HR.out.cell 3 _ rfl
  have fP3 := HP.out.free 3
  have fR3 := HR.out.free 3
  have hzP := HP.out.lt
  have hzR := HR.out.lt
  go_wp2_with fail
  refine (split_any t 44 _ HG.out (by omega)).mono ?_
  rintro e w7 ⟨rfl, hw7⟩
  have hk7 : Kept w6 w7 := by rw [hw7]; exact kept_alloc _ _
  have bS : Blk w7 w6.heap.size 9 (strCells (splitC 44 t)).toArray := by rw [hw7]; exact Blk.new _ _ _
  have hB : w6.heap.size ≠ w.heap.size + 1 := by omega
  clear cP0 cR0 fP0 fR0 cP1 cR1 fP1 fR1 cP2 cR2 fP2 fR2 cP3 cR3 fP3 fR3 hzP hzR
  have bP : Blk w7 (w.heap.size + 1) 32 #[Value.string (bs []), Value.string (bs []), Value.string (bs p), Value.string (bs [])] := (HP.out).kept hk7
  have bR : Blk w7 w.heap.size 32 #[Value.string (bs []), Value.string (bs []), Value.string (bs []), Value.string (bs [])] := (HR.out).kept hk7
  have kk : Kept w w7 := (HK.out).trans hk7
  clear HP HR HK HG
  have HP := Lib.hid bP
  have HR := Lib.hid bR
  have HK := Lib.hid kk
  have HG := Lib.hid (hg.kept kk)
  clear bP bR kk hk7
  clear hw7
  rw [HSP.out]
  rw [HSP.out] at bS
  have HS : Hid (Blk w7 w6.heap.size 9 #[Value.string (bs a), Value.string (bs b), Value.string (bs c)]) := bS
  clear bS
  have cP0 : w7.cell? ⟨w.heap.size + 1, 0, none⟩ = some (Value.string (bs [])) := HP.out.cell 0 _ rfl
  have cR0 : w7.cell? ⟨w.heap.size, 0, none⟩ = some (Value.string (bs [])) := HR.out.cell 0 _ rfl
  have fP0 := HP.out.free 0
  have fR0 := HR.out.free 0
  have cP1 : w7.cell? ⟨w.heap.size + 1, 1, none⟩ = some (Value.string (bs [])) := HP.out.cell 1 _ rfl
  have cR1 : w7.cell? ⟨w.heap.size, 1, none⟩ = some (Value.string (bs [])) := HR.out.cell 1 _ rfl
  have fP1 := HP.out.free 1
  have fR1 := HR.out.free 1
  have cP2 : w7.cell? ⟨w.heap.size + 1, 2, none⟩ = some (Value.string (bs p)) := HP.out.cell 2 _ rfl
  have cR2 : w7.cell? ⟨w.heap.size, 2, none⟩ = some (Value.string (bs [])) := HR.out.cell 2 _ rfl
  have fP2 := HP.out.free 2
  have fR2 := HR.out.free 2
  have cP3 : w7.cell? ⟨w.heap.size + 1, 3, none⟩ = some (Value.string (bs [])) := HP.out.cell 3 _ rfl
  have cR3 : w7.cell? ⟨w.heap.size, 3, none⟩ = some (Value.string (bs [])) := HR.out.cell 3 _ rfl
  have fP3 := HP.out.free 3
  have fR3 := HR.out.free 3
  have hzP := HP.out.lt
  have hzR := HR.out.lt
  have cS0 : w7.cell? ⟨w6.heap.size, 0, none⟩ = some (.string (bs a)) := HS.out.cell 0 _ rfl
  have cS1 : w7.cell? ⟨w6.heap.size, 1, none⟩ = some (.string (bs b)) := HS.out.cell 1 _ rfl
  have cS2 : w7.cell? ⟨w6.heap.size, 2, none⟩ = some (.string (bs c)) := HS.out.cell 2 _ rfl
  have hzS := HS.out.lt
  go_wp2_with fail
  refine (clean_any a _ HG.out (by omega)).mono ?_
  rintro e w8 ⟨rfl, hk8⟩
  clear cS0 cS1 cS2 hzS
  clear cP0 cR0 fP0 fR0 cP1 cR1 fP1 fR1 cP2 cR2 fP2 fR2 cP3 cR3 fP3 fR3 hzP hzR
  have bS : Blk w8 w6.heap.size 9 #[Value.string (bs a), Value.string (bs b), Value.string (bs c)] := (HS.out).kept hk8
  clear HS
  have HS := Lib.hid bS
  clear bS
  have bP : Blk w8 (w.heap.size + 1) 32 #[Value.string (bs []), Value.string (bs []), Value.string (bs p), Value.string (bs [])] := (HP.out).kept hk8
  have bR : Blk w8 w.heap.size 32 #[Value.string (bs []), Value.string (bs []), Value.string (bs []), Value.string (bs [])] := (HR.out).kept hk8
  have kk : Kept w w8 := (HK.out).trans hk8
  clear HP HR HK HG
  have HP := Lib.hid bP
  have HR := Lib.hid bR
  have HK := Lib.hid kk
  have HG := Lib.hid (hg.kept kk)
  clear bP bR kk hk8
  rw [HFA.out]
  have cP0 : w8.cell? ⟨w.heap.size + 1, 0, none⟩ = some (Value.string (bs [])) := HP.out.cell 0 _ rfl
  have cR0 : w8.cell? ⟨w.heap.size, 0, none⟩ = some (Value.string (bs [])) := HR.out.cell 0 _ rfl
  have fP0 := HP.out.free 0
  have fR0 := HR.out.free 0
  have cP1 : w8.cell? ⟨w.heap.size + 1, 1, none⟩ = some (Value.string (bs [])) := HP.out.cell 1 _ rfl
  have cR1 : w8.cell? ⟨w.heap.size, 1, none⟩ = some (Value.string (bs [])) := HR.out.cell 1 _ rfl
  have fP1 := HP.out.free 1
  have fR1 := HR.out.free 1
  have cP2 : w8.cell? ⟨w.heap.size + 1, 2, none⟩ = some (Value.string (bs p)) := HP.out.cell 2 _ rfl
  have cR2 : w8.cell? ⟨w.heap.size, 2, none⟩ = some (Value.string (bs [])) := HR.out.cell 2 _ rfl
  have fP2 := HP.out.free 2
  have fR2 := HR.out.free 2
  have cP3 : w8.cell? ⟨w.heap.size + 1, 3, none⟩ = some (Value.string (bs [])) := HP.out.cell 3 _ rfl
  have cR3 : w8.cell? ⟨w.heap.size, 3, none⟩ = some (Value.string (bs [])) := HR.out.cell 3 _ rfl
  have fP3 := HP.out.free 3
  have fR3 := HR.out.free 3
  have hzP := HP.out.lt
  have hzR := HR.out.lt
  have cS0 : w8.cell? ⟨w6.heap.size, 0, none⟩ = some (.string (bs a)) := HS.out.cell 0 _ rfl
  have cS1 : w8.cell? ⟨w6.heap.size, 1, none⟩ = some (.string (bs b)) := HS.out.cell 1 _ rfl
  have cS2 : w8.cell? ⟨w6.heap.size, 2, none⟩ = some (.string (bs c)) := HS.out.cell 2 _ rfl
  have hzS := HS.out.lt
  go_wp2_with fail
  clear cS0 cS1 cS2 hzS
  clear cP0 cR0 fP0 fR0 cP1 cR1 fP1 fR1 cP2 cR2 fP2 fR2 cP3 cR3 fP3 fR3 hzP hzR
  obtain ⟨wz, hwz⟩ : ∃ x, x = w8.setCell ⟨w.heap.size + 1, 0, none⟩ (Value.string (bs f)) := ⟨_, rfl⟩
  rw [← hwz]
  have bP : Blk wz (w.heap.size + 1) 32 #[Value.string (bs f), Value.string (bs []), Value.string (bs p), Value.string (bs [])] := by rw [hwz]; exact HP.out.set 0 _
  have bR : Blk wz w.heap.size 32 #[Value.string (bs []), Value.string (bs []), Value.string (bs []), Value.string (bs [])] := by rw [hwz]; exact HR.out.other _ _ _ (by omega)
  have bS : Blk wz w6.heap.size 9 #[Value.string (bs a), Value.string (bs b), Value.string (bs c)] := by rw [hwz]; exact HS.out.other _ _ _ hB
  have kk : Kept w wz := by rw [hwz]; exact kept_set HK.out _ _ _ (by omega)
  clear HP HR HS HK HG
  have HP := Lib.hid bP
  have HR := Lib.hid bR
  have HS := Lib.hid bS
  have HK := Lib.hid kk
  have HG := Lib.hid (hg.kept kk)
  clear bP bR bS kk hwz
  have cP0 : wz.cell? ⟨w.heap.size + 1, 0, none⟩ = some (Value.string (bs f)) := HP.out.cell 0 _ rfl
  have cR0 : wz.cell? ⟨w.heap.size, 0, none⟩ = some (Value.string (bs [])) := HR.out.cell 0 _ rfl
  have fP0 := HP.out.free 0
  have fR0 := HR.out.free 0
  have cP1 : wz.cell? ⟨w.heap.size + 1, 1, none⟩ = some (Value.string (bs [])) := HP.out.cell 1 _ rfl
  have cR1 : wz.cell? ⟨w.heap.size, 1, none⟩ = some (Value.string (bs [])) := HR.out.cell 1 _ rfl
  have fP1 := HP.out.free 1
  have fR1 := HR.out.free 1
  have cP2 : wz.cell? ⟨w.heap.size + 1, 2, none⟩ = some (Value.string (bs p)) := HP.out.cell 2 _ rfl
  have cR2 : wz.cell? ⟨w.heap.size, 2, none⟩ = some (Value.string (bs [])) := HR.out.cell 2 _ rfl
  have fP2 := HP.out.free 2
  have fR2 := HR.out.free 2
  have cP3 : wz.cell? ⟨w.heap.size + 1, 3, none⟩ = some (Value.string (bs [])) := HP.out.cell 3 _ rfl
  have cR3 : wz.cell? ⟨w.heap.size, 3, none⟩ = some (Value.string (bs [])) := HR.out.cell 3 _ rfl
  have fP3 := HP.out.free 3
  have fR3 := HR.out.free 3
  have hzP := HP.out.lt
  have hzR := HR.out.lt
  have cS0 : wz.cell? ⟨w6.heap.size, 0, none⟩ = some (.string (bs a)) := HS.out.cell 0 _ rfl
  have cS1 : wz.cell? ⟨w6.heap.size, 1, none⟩ = some (.string (bs b)) := HS.out.cell 1 _ rfl
  have cS2 : wz.cell? ⟨w6.heap.size, 2, none⟩ = some (.string (bs c)) := HS.out.cell 2 _ rfl
  have hzS := HS.out.lt
  have HK2 : Hid (∀ {w9 : World}, Kept wz.drew w9 → w9.cell? ⟨w6.heap.size, 2, none⟩ = some (.string (bs c)) ∧ Gnd w9 ∧ w6.heap.size < w9.heap.size) := by
    intro w9 hk
    have hk : Kept wz w9 := (kept_drewN wz 1).trans hk
    exact ⟨(HS.out.kept hk).cell 2 _ rfl, HG.out.kept hk, (HS.out.kept hk).lt⟩
  have HK3 : Hid (∀ {w10 : World}, Kept wz w10 → ((w10.cell? ⟨w.heap.size + 1, 0, none⟩ = some (Value.string (bs f))) ∧ (w10.cell? ⟨w.heap.size + 1, 1, none⟩ = some (Value.string (bs []))) ∧ (w10.cell? ⟨w.heap.size + 1, 2, none⟩ = some (Value.string (bs p))) ∧ (w10.cell? ⟨w.heap.size + 1, 3, none⟩ = some (Value.string (bs []))) ∧ (w10.cell? ⟨w.heap.size, 0, none⟩ = some (Value.string (bs []))) ∧ (w10.cell? ⟨w.heap.size, 1, none⟩ = some (Value.string (bs []))) ∧ (w10.cell? ⟨w.heap.size, 2, none⟩ = some (Value.string (bs []))) ∧ (w10.cell? ⟨w.heap.size, 3, none⟩ = some (Value.string (bs []))) ∧ (w10.frozen? ⟨w.heap.size + 1, 0, none⟩ = false) ∧ (w10.frozen? ⟨w.heap.size + 1, 1, none⟩ = false) ∧ (w10.frozen? ⟨w.heap.size + 1, 2, none⟩ = false) ∧ (w10.frozen? ⟨w.heap.size + 1, 3, none⟩ = false) ∧ (w10.frozen? ⟨w.heap.size, 0, none⟩ = false) ∧ (w10.frozen? ⟨w.heap.size, 1, none⟩ = false) ∧ (w10.frozen? ⟨w.heap.size, 2, none⟩ = false) ∧ (w10.frozen? ⟨w.heap.size, 3, none⟩ = false)) ∧ w.heap.size + 1 < w10.heap.size ∧ Kept w w10) := by
    intro w10 hk
    have hP := HP.out.kept hk
    have hR := HR.out.kept hk
    exact ⟨⟨hP.cell 0 _ rfl, hP.cell 1 _ rfl, hP.cell 2 _ rfl, hP.cell 3 _ rfl, hR.cell 0 _ rfl, hR.cell 1 _ rfl, hR.cell 2 _ rfl, hR.cell 3 _ rfl, hP.free 0, hP.free 1, hP.free 2, hP.free 3, hR.free 0, hR.free 1, hR.free 2, hR.free 3⟩, hP.lt, HK.out.trans hk⟩
  clear cP0 cR0 fP0 fR0 cP1 cR1 fP1 fR1 cP2 cR2 fP2 fR2 cP3 cR3 fP3 fR3 hzP hzR
  clear HK HP HR HS
  go_region_with (first
    | (go_at_call_of 139 (Value.string (bs b)); refine (clean_any b _ (by exact HG.out) (by omega)).mono ?_; rintro e w9 ⟨rfl, hk9⟩; rw [HFB.out]; obtain ⟨q1, q2, q3⟩ := HK2.out hk9; have HQ2 := Lib.hid q2; have HK9 := Lib.hid ((kept_drewN wz 1).trans hk9); clear q2 hk9)
    | (go_at_call_of 139 (Value.string (bs c)); refine (clean_any c _ (by exact HQ2.out) (by omega)).mono ?_; rintro e w10 ⟨rfl, hk10⟩; rw [HFC.out]; have HK10 := Lib.hid (HK9.out.trans hk10); clear hk10; obtain ⟨⟨q0, q1, q2, q3, q4, q5, q6, q7, q8, q9, q10, q11, q12, q13, q14, q15⟩, q20, q21⟩ := HK3.out HK10.out; have HKF := Lib.hid q21; clear q21))
  all_goals
    go_wp2_with fail
    refine bodyPost_ret (v := .tuple #[persV f g p s, .int .i64 0]) ?_ rfl ⟨rfl, ?_⟩
    · clear HK2 HK3 HK9 HK10 HKF
      simp [results, Tryz.results144, go_sem, q0, q1, q2, q3, q4, q5, q6, q7, q8, q9, q10, q11, q12, q13, q14, q15, q20]
    · exact kept_set (kept_set (kept_set (kept_set (kept_set (kept_set (HKF.out) _ _ _ (by omega)) _ _ _ (by omega)) _ _ _ (by omega)) _ _ _ (by omega)) _ _ _ (by omega)) _ _ _ (by omega)

set_option maxRecDepth 100000 in
set_option maxHeartbeats 3200000 in
theorem parse_none3_b (l : Bs) (w : World) (hg : Gnd w) (hs : l.length ≤ 1000000) (hl : lineB l = true) (r p t : Bs) (HC : Hid (cleanL l = 123 :: r)) (hr : r.length ≤ 1000001) (hbr : before 125 r < r.length) (HPC : Hid (cleanL (r.take (before 125 r)) = p)) (HRC : Hid (r.drop (before 125 r + 1) = t)) (hpl : p.length ≤ 1000010) (ht : t.length ≤ 1000001) (hcnt : t.count 44 ≤ 2) (HA1 : Hid ((p : Bs).any (inSet setC) = false)) (HA2 : Hid (t.any (inSet setN) = false)) (a b c : Bs) (HSP : Hid (splitC 44 t = [a, b, c])) (ha : a.length ≤ 1000010) (hb : b.length ≤ 1000010) (hc : c.length ≤ 1000010) (HFA : Hid (cleanL a = [])) (s : Bs) (HFB : Hid (cleanL b = s)) (g : Bs) (HFC : Hid (cleanL c = g))  :
    Calls Tryz.prog 144 #[.string (bs l)] w fun e w' => e = .returned (.tuple #[persV [] [] [] [], .int .i64 8]) ∧ Kept w w' := by
  have hcl := cleanL_le l
  go_enter Tryz.func144, Tryz.ntmps144
  go_wp2_with fail
  refine (line_any l _ (by omega)).mono ?_
  rintro e w1 ⟨rfl, n, rfl⟩
  rw [hl]
  go_wp2_with fail
  refine (clean_any l _ (hg.kept (((kept_alloc w _).trans (kept_alloc _ _)).trans (kept_drewN _ n))) (by omega)).mono ?_
  rintro e w2 ⟨rfl, hk2⟩
  have HP0 := Lib.hid ((Blk.new (w.alloc (.cells #[Value.string (bs []), Value.string (bs []), Value.string (bs []), Value.string (bs [])] 32)) 32 #[Value.string (bs []), Value.string (bs []), Value.string (bs []), Value.string (bs [])]).drewN n)
  have bP : Blk w2 (w.heap.size + 1) 32 #[Value.string (bs []), Value.string (bs []), Value.string (bs []), Value.string (bs [])] := by have := HP0.out.kept hk2; simpa using this
  have bR : Blk w2 w.heap.size 32 #[Value.string (bs []), Value.string (bs []), Value.string (bs []), Value.string (bs [])] := (((Blk.new w 32 #[Value.string (bs []), Value.string (bs []), Value.string (bs []), Value.string (bs [])]).alloc _).drewN n).kept hk2
  have kk : Kept w w2 := (((kept_alloc w _).trans (kept_alloc _ _)).trans (kept_drewN _ n)).trans hk2
  clear HP0
  have HP := Lib.hid bP
  have HR := Lib.hid bR
  have HK := Lib.hid kk
  have HG := Lib.hid (hg.kept kk)
  clear bP bR kk hk2
  rw [HC.out]
  go_wp2_with fail
  refine (cutp_yes r 123 _).mono ?_
  rintro e w' ⟨rfl, rfl⟩
  go_wp2_with fail
  refine (cut_any r 125 _ HG.out (by omega)).mono ?_
  rintro e w3 ⟨rfl, m, rfl⟩
  rw [if_pos hbr]
  go_wp2_with fail
  refine (clean_any (r.take (before 125 r)) _ (by exact HG.out) (by simp; omega)).mono ?_
  rintro e w4 ⟨rfl, hk4'⟩
  have hk4 := (kept_drewN w2 m).trans hk4'
  clear hk4'
  have bP : Blk w4 (w.heap.size + 1) 32 #[Value.string (bs []), Value.string (bs []), Value.string (bs []), Value.string (bs [])] := (HP.out).kept hk4
  have bR : Blk w4 w.heap.size 32 #[Value.string (bs []), Value.string (bs []), Value.string (bs []), Value.string (bs [])] := (HR.out).kept hk4
  have kk : Kept w w4 := (HK.out).trans hk4
  clear HP HR HK HG
  have HP := Lib.hid bP
  have HR := Lib.hid bR
  have HK := Lib.hid kk
  have HG := Lib.hid (hg.kept kk)
  clear bP bR kk hk4
  rw [HPC.out, HRC.out]
  have cP0 : w4.cell? ⟨w.heap.size + 1, 0, none⟩ = some (Value.string (bs [])) := HP.out.cell 0 _ rfl
  have cR0 : w4.cell? ⟨w.heap.size, 0, none⟩ = some (Value.string (bs [])) := HR.out.cell 0 _ rfl
  have fP0 := HP.out.free 0
  have fR0 := HR.out.free 0
  have cP1 : w4.cell? ⟨w.heap.size + 1, 1, none⟩ = some (Value.string (bs [])) := HP.out.cell 1 _ rfl
  have cR1 : w4.cell? ⟨w.heap.size, 1, none⟩ = some (Value.string (bs [])) := HR.out.cell 1 _ rfl
  have fP1 := HP.out.free 1
  have fR1 := HR.out.free 1
  have cP2 : w4.cell? ⟨w.heap.size + 1, 2, none⟩ = some (Value.string (bs [])) := HP.out.cell 2 _ rfl
  have cR2 : w4.cell? ⟨w.heap.size, 2, none⟩ = some (Value.string (bs [])) := HR.out.cell 2 _ rfl
  have fP2 := HP.out.free 2
  have fR2 := HR.out.free 2
  have cP3 : w4.cell? ⟨w.heap.size + 1, 3, none⟩ = some (Value.string (bs [])) := HP.out.cell 3 _ rfl
  have cR3 : w4.cell? ⟨w.heap.size, 3, none⟩ = some (Value.string (bs [])) := HR.out.cell 3 _ rfl
  have fP3 := HP.out.free 3
  have fR3 := HR.out.free 3
  have hzP := HP.out.lt
  have hzR := HR.out.lt
  go_wp2_with fail
  refine (count_any t 44 _).mono ?_
  rintro e w' ⟨rfl, rfl⟩
  go_wp2_with fail
  have HSC : Hid (setC = [44, 59, 123, 125]) := rfl
  have HSN : Hid (setN = [59, 123, 125]) := rfl
  rw [← HSC.out]
  refine (cany_any p setC _ asciiC (by decide) (by decide) (by omega)).mono ?_
  rintro e w5 ⟨rfl, hk5⟩
  rw [HA1.out]
  clear cP0 cR0 fP0 fR0 cP1 cR1 fP1 fR1 cP2 cR2 fP2 fR2 cP3 cR3 fP3 fR3 hzP hzR
  have bP : Blk w5 (w.heap.size + 1) 32 #[Value.string (bs []), Value.string (bs []), Value.string (bs p), Value.string (bs [])] := ((HP.out).set 2 (Value.string (bs p))).kept hk5
  have bR : Blk w5 w.heap.size 32 #[Value.string (bs []), Value.string (bs []), Value.string (bs []), Value.string (bs [])] := ((HR.out).other (w.heap.size + 1) 2 (Value.string (bs p)) (by omega)).kept hk5
  have kk : Kept w w5 := (kept_set (HK.out) (w.heap.size + 1) 2 (Value.string (bs p)) (by omega)).trans hk5
  clear HP HR HK HG
  have HP := Lib.hid bP
  have HR := Lib.hid bR
  have HK := Lib.hid kk
  have HG := Lib.hid (hg.kept kk)
  clear bP bR kk hk5
  have cP0 : w5.cell? ⟨w.heap.size + 1, 0, none⟩ = some (Value.string (bs [])) := HP.out.cell 0 _ rfl
  have cR0 : w5.cell? ⟨w.heap.size, 0, none⟩ = some (Value.string (bs [])) := HR.out.cell 0 _ rfl
  have fP0 := HP.out.free 0
  have fR0 := HR.out.free 0
  have cP1 : w5.cell? ⟨w.heap.size + 1, 1, none⟩ = some (Value.string (bs [])) := HP.out.cell 1 _ rfl
  have cR1 : w5.cell? ⟨w.heap.size, 1, none⟩ = some (Value.string (bs [])) := HR.out.cell 1 _ rfl
  have fP1 := HP.out.free 1
  have fR1 := HR.out.free 1
  have cP2 : w5.cell? ⟨w.heap.size + 1, 2, none⟩ = some (Value.string (bs p)) := HP.out.cell 2 _ rfl
  have cR2 : w5.cell? ⟨w.heap.size, 2, none⟩ = some (Value.string (bs [])) := HR.out.cell 2 _ rfl
  have fP2 := HP.out.free 2
  have fR2 := HR.out.free 2
  have cP3 : w5.cell? ⟨w.heap.size + 1, 3, none⟩ = some (Value.string (bs [])) := HP.out.cell 3 _ rfl
  have cR3 : w5.cell? ⟨w.heap.size, 3, none⟩ = some (Value.string (bs [])) := HR.out.cell 3 _ rfl
  have fP3 := HP.out.free 3
  have fR3 := HR.out.free 3
  have hzP := HP.out.lt
  have hzR := HR.out.lt
  go_wp2_with fail
  rw [← HSN.out]
  refine (cany_any t setN _ asciiN (by decide) (by decide) (by omega)).mono ?_
  rintro e w6 ⟨rfl, hk6⟩
  rw [HA2.out]
  clear cP0 cR0 fP0 fR0 cP1 cR1 fP1 fR1 cP2 cR2 fP2 fR2 cP3 cR3 fP3 fR3 hzP hzR
  have bP : Blk w6 (w.heap.size + 1) 32 #[Value.string (bs []), Value.string (bs []), Value.string (bs p), Value.string (bs [])] := (HP.out).kept hk6
  have bR : Blk w6 w.heap.size 32 #[Value.string (bs []), Value.string (bs []), Value.string (bs []), Value.string (bs [])] := (HR.out).kept hk6
  have kk : Kept w w6 := (HK.out).trans hk6
  clear HP HR HK HG
  have HP := Lib.hid bP
  have HR := Lib.hid bR
  have HK := Lib.hid kk
  have HG := Lib.hid (hg.kept kk)
  clear bP bR kk hk6
  have cP0 : w6.cell? ⟨w.heap.size + 1, 0, none⟩ = some (Value.string (bs [])) := HP.out.cell 0 _ rfl
  have cR0 : w6.cell? ⟨w.heap.size, 0, none⟩ = some (Value.string (bs [])) := HR.out.cell 0 _ rfl
  have fP0 := HP.out.free 0
  have fR0 := HR.out.free 0
  have cP1 : w6.cell? ⟨w.heap.size + 1, 1, none⟩ = some (Value.string (bs [])) := HP.out.cell 1 _ rfl
  have cR1 : w6.cell? ⟨w.heap.size, 1, none⟩ = some (Value.string (bs [])) := HR.out.cell 1 _ rfl
  have fP1 := HP.out.free 1
  have fR1 := HR.out.free 1
  have cP2 : w6.cell? ⟨w.heap.size + 1, 2, none⟩ = some (Value.string (bs p)) := HP.out.cell 2 _ rfl
  have cR2 : w6.cell? ⟨w.heap.size, 2, none⟩ = some (Value.string (bs [])) := HR.out.cell 2 _ rfl
  have fP2 := HP.out.free 2
  have fR2 := HR.out.free 2
  have cP3 : w6.cell? ⟨w.heap.size + 1, 3, none⟩ = some (Value.string (bs [])) := HP.out.cell 3 _ rfl
  have cR3 : w6.cell? ⟨w.heap.size, 3, none⟩ = some (Value.string (bs [])) := HR.out.cell 3 _ rfl
  have fP3 := HP.out.free 3
  have fR3 := HR.out.free 3
  have hzP := HP.out.lt
  have hzR := HR.out.lt
  go_wp2_with fail
  refine (split_any t 44 _ HG.out (by omega)).mono ?_
  rintro e w7 ⟨rfl, hw7⟩
  have hk7 : Kept w6 w7 := by rw [hw7]; exact kept_alloc _ _
  have bS : Blk w7 w6.heap.size 9 (strCells (splitC 44 t)).toArray := by rw [hw7]; exact Blk.new _ _ _
  have hB : w6.heap.size ≠ w.heap.size + 1 := by omega
  clear cP0 cR0 fP0 fR0 cP1 cR1 fP1 fR1 cP2 cR2 fP2 fR2 cP3 cR3 fP3 fR3 hzP hzR
  have bP : Blk w7 (w.heap.size + 1) 32 #[Value.string (bs []), Value.string (bs []), Value.string (bs p), Value.string (bs [])] := (HP.out).kept hk7
  have bR : Blk w7 w.heap.size 32 #[Value.string (bs []), Value.string (bs []), Value.string (bs []), Value.string (bs [])] := (HR.out).kept hk7
  have kk : Kept w w7 := (HK.out).trans hk7
  clear HP HR HK HG
  have HP := Lib.hid bP
  have HR := Lib.hid bR
  have HK := Lib.hid kk
  have HG := Lib.hid (hg.kept kk)
  clear bP bR kk hk7
  clear hw7
  rw [HSP.out]
  rw [HSP.out] at bS
  have HS : Hid (Blk w7 w6.heap.size 9 #[Value.string (bs a), Value.string (bs b), Value.string (bs c)]) := bS
  clear bS
  have cP0 : w7.cell? ⟨w.heap.size + 1, 0, none⟩ = some (Value.string (bs [])) := HP.out.cell 0 _ rfl
  have cR0 : w7.cell? ⟨w.heap.size, 0, none⟩ = some (Value.string (bs [])) := HR.out.cell 0 _ rfl
  have fP0 := HP.out.free 0
  have fR0 := HR.out.free 0
  have cP1 : w7.cell? ⟨w.heap.size + 1, 1, none⟩ = some (Value.string (bs [])) := HP.out.cell 1 _ rfl
  have cR1 : w7.cell? ⟨w.heap.size, 1, none⟩ = some (Value.string (bs [])) := HR.out.cell 1 _ rfl
  have fP1 := HP.out.free 1
  have fR1 := HR.out.free 1
  have cP2 : w7.cell? ⟨w.heap.size + 1, 2, none⟩ = some (Value.string (bs p)) := HP.out.cell 2 _ rfl
  have cR2 : w7.cell? ⟨w.heap.size, 2, none⟩ = some (Value.string (bs [])) := HR.out.cell 2 _ rfl
  have fP2 := HP.out.free 2
  have fR2 := HR.out.free 2
  have cP3 : w7.cell? ⟨w.heap.size + 1, 3, none⟩ = some (Value.string (bs [])) := HP.out.cell 3 _ rfl
  have cR3 : w7.cell? ⟨w.heap.size, 3, none⟩ = some (Value.string (bs [])) := HR.out.cell 3 _ rfl
  have fP3 := HP.out.free 3
  have fR3 := HR.out.free 3
  have hzP := HP.out.lt
  have hzR := HR.out.lt
  have cS0 : w7.cell? ⟨w6.heap.size, 0, none⟩ = some (.string (bs a)) := HS.out.cell 0 _ rfl
  have cS1 : w7.cell? ⟨w6.heap.size, 1, none⟩ = some (.string (bs b)) := HS.out.cell 1 _ rfl
  have cS2 : w7.cell? ⟨w6.heap.size, 2, none⟩ = some (.string (bs c)) := HS.out.cell 2 _ rfl
  have hzS := HS.out.lt
  go_wp2_with fail
  refine (clean_any a _ HG.out (by omega)).mono ?_
  rintro e w8 ⟨rfl, hk8⟩
  clear cS0 cS1 cS2 hzS
  clear cP0 cR0 fP0 fR0 cP1 cR1 fP1 fR1 cP2 cR2 fP2 fR2 cP3 cR3 fP3 fR3 hzP hzR
  have bS : Blk w8 w6.heap.size 9 #[Value.string (bs a), Value.string (bs b), Value.string (bs c)] := (HS.out).kept hk8
  clear HS
  have HS := Lib.hid bS
  clear bS
  have bP : Blk w8 (w.heap.size + 1) 32 #[Value.string (bs []), Value.string (bs []), Value.string (bs p), Value.string (bs [])] := (HP.out).kept hk8
  have bR : Blk w8 w.heap.size 32 #[Value.string (bs []), Value.string (bs []), Value.string (bs []), Value.string (bs [])] := (HR.out).kept hk8
  have kk : Kept w w8 := (HK.out).trans hk8
  clear HP HR HK HG
  have HP := Lib.hid bP
  have HR := Lib.hid bR
  have HK := Lib.hid kk
  have HG := Lib.hid (hg.kept kk)
  clear bP bR kk hk8
  rw [HFA.out]
  have cP0 : w8.cell? ⟨w.heap.size + 1, 0, none⟩ = some (Value.string (bs [])) := HP.out.cell 0 _ rfl
  have cR0 : w8.cell? ⟨w.heap.size, 0, none⟩ = some (Value.string (bs [])) := HR.out.cell 0 _ rfl
  have fP0 := HP.out.free 0
  have fR0 := HR.out.free 0
  have cP1 : w8.cell? ⟨w.heap.size + 1, 1, none⟩ = some (Value.string (bs [])) := HP.out.cell 1 _ rfl
  have cR1 : w8.cell? ⟨w.heap.size, 1, none⟩ = some (Value.string (bs [])) := HR.out.cell 1 _ rfl
  have fP1 := HP.out.free 1
  have fR1 := HR.out.free 1
  have cP2 : w8.cell? ⟨w.heap.size + 1, 2, none⟩ = some (Value.string (bs p)) := HP.out.cell 2 _ rfl
  have cR2 : w8.cell? ⟨w.heap.size, 2, none⟩ = some (Value.string (bs [])) := HR.out.cell 2 _ rfl
  have fP2 := HP.out.free 2
  have fR2 := HR.out.free 2
  have cP3 : w8.cell? ⟨w.heap.size + 1, 3, none⟩ = some (Value.string (bs [])) := HP.out.cell 3 _ rfl
  have cR3 : w8.cell? ⟨w.heap.size, 3, none⟩ = some (Value.string (bs [])) := HR.out.cell 3 _ rfl
  have fP3 := HP.out.free 3
  have fR3 := HR.out.free 3
  have hzP := HP.out.lt
  have hzR := HR.out.lt
  have cS0 : w8.cell? ⟨w6.heap.size, 0, none⟩ = some (.string (bs a)) := HS.out.cell 0 _ rfl
  have cS1 : w8.cell? ⟨w6.heap.size, 1, none⟩ = some (.string (bs b)) := HS.out.cell 1 _ rfl
  have cS2 : w8.cell? ⟨w6.heap.size, 2, none⟩ = some (.string (bs c)) := HS.out.cell 2 _ rfl
  have hzS := HS.out.lt
  go_wp2_with fail
  clear cS0 cS1 cS2 hzS
  clear cP0 cR0 fP0 fR0 cP1 cR1 fP1 fR1 cP2 cR2 fP2 fR2 cP3 cR3 fP3 fR3 hzP hzR
  obtain ⟨wz, hwz⟩ : ∃ x, x = w8.setCell ⟨w.heap.size + 1, 0, none⟩ (Value.string (bs [])) := ⟨_, rfl⟩
  rw [← hwz]
  have bP : Blk wz (w.heap.size + 1) 32 #[Value.string (bs []), Value.string (bs []), Value.string (bs p), Value.string (bs [])] := by rw [hwz]; exact HP.out.set 0 _
  have bR : Blk wz w.heap.size 32 #[Value.string (bs []), Value.string (bs []), Value.string (bs []), Value.string (bs [])] := by rw [hwz]; exact HR.out.other _ _ _ (by omega)
  have bS : Blk wz w6.heap.size 9 #[Value.string (bs a), Value.string (bs b), Value.string (bs c)] := by rw [hwz]; exact HS.out.other _ _ _ hB
  have kk : Kept w wz := by rw [hwz]; exact kept_set HK.out _ _ _ (by omega)
  clear HP HR HS HK HG
  have HP := Lib.hid bP
  have HR := Lib.hid bR
  have HS := Lib.hid bS
  have HK := Lib.hid kk
  have HG := Lib.hid (hg.kept kk)
  clear bP bR bS kk hwz
  have cP0 : wz.cell? ⟨w.heap.size + 1, 0, none⟩ = some (Value.string (bs [])) := HP.out.cell 0 _ rfl
  have cR0 : wz.cell? ⟨w.heap.size, 0, none⟩ = some (Value.string (bs [])) := HR.out.cell 0 _ rfl
  have fP0 := HP.out.free 0
  have fR0 := HR.out.free 0
  have cP1 : wz.cell? ⟨w.heap.size + 1, 1, none⟩ = some (Value.string (bs [])) := HP.out.cell 1 _ rfl
  have cR1 : wz.cell? ⟨w.heap.size, 1, none⟩ = some (Value.string (bs [])) := HR.out.cell 1 _ rfl
  have fP1 := HP.out.free 1
  have fR1 := HR.out.free 1
  have cP2 : wz.cell? ⟨w.heap.size + 1, 2, none⟩ = some (Value.string (bs p)) := HP.out.cell 2 _ rfl
  have cR2 : wz.cell? ⟨w.heap.size, 2, none⟩ = some (Value.string (bs [])) := HR.out.cell 2 _ rfl
  have fP2 := HP.out.free 2
  have fR2 := HR.out.free 2
  have cP3 : wz.cell? ⟨w.heap.size + 1, 3, none⟩ = some (Value.string (bs [])) := HP.out.cell 3 _ rfl
  have cR3 : wz.cell? ⟨w.heap.size, 3, none⟩ = some (Value.string (bs [])) := HR.out.cell 3 _ rfl
  have fP3 := HP.out.free 3
  have fR3 := HR.out.free 3
  have hzP := HP.out.lt
  have hzR := HR.out.lt
  have cS0 : wz.cell? ⟨w6.heap.size, 0, none⟩ = some (.string (bs a)) := HS.out.cell 0 _ rfl
  have cS1 : wz.cell? ⟨w6.heap.size, 1, none⟩ = some (.string (bs b)) := HS.out.cell 1 _ rfl
  have cS2 : wz.cell? ⟨w6.heap.size, 2, none⟩ = some (.string (bs c)) := HS.out.cell 2 _ rfl
  have hzS := HS.out.lt
  have HK2 : Hid (∀ {w9 : World}, Kept wz.drew w9 → w9.cell? ⟨w6.heap.size, 2, none⟩ = some (.string (bs c)) ∧ Gnd w9 ∧ w6.heap.size < w9.heap.size) := by
    intro w9 hk
    have hk : Kept wz w9 := (kept_drewN wz 1).trans hk
    exact ⟨(HS.out.kept hk).cell 2 _ rfl, HG.out.kept hk, (HS.out.kept hk).lt⟩
  have HK3 : Hid (∀ {w10 : World}, Kept wz w10 → ((w10.cell? ⟨w.heap.size + 1, 0, none⟩ = some (Value.string (bs []))) ∧ (w10.cell? ⟨w.heap.size + 1, 1, none⟩ = some (Value.string (bs []))) ∧ (w10.cell? ⟨w.heap.size + 1, 2, none⟩ = some (Value.string (bs p))) ∧ (w10.cell? ⟨w.heap.size + 1, 3, none⟩ = some (Value.string (bs []))) ∧ (w10.cell? ⟨w.heap.size, 0, none⟩ = some (Value.string (bs []))) ∧ (w10.cell? ⟨w.heap.size, 1, none⟩ = some (Value.string (bs []))) ∧ (w10.cell? ⟨w.heap.size, 2, none⟩ = some (Value.string (bs []))) ∧ (w10.cell? ⟨w.heap.size, 3, none⟩ = some (Value.string (bs []))) ∧ (w10.frozen? ⟨w.heap.size + 1, 0, none⟩ = false) ∧ (w10.frozen? ⟨w.heap.size + 1, 1, none⟩ = false) ∧ (w10.frozen? ⟨w.heap.size + 1, 2, none⟩ = false) ∧ (w10.frozen? ⟨w.heap.size + 1, 3, none⟩ = false) ∧ (w10.frozen? ⟨w.heap.size, 0, none⟩ = false) ∧ (w10.frozen? ⟨w.heap.size, 1, none⟩ = false) ∧ (w10.frozen? ⟨w.heap.size, 2, none⟩ = false) ∧ (w10.frozen? ⟨w.heap.size, 3, none⟩ = false)) ∧ w.heap.size + 1 < w10.heap.size ∧ Kept w w10) := by
    intro w10 hk
    have hP := HP.out.kept hk
    have hR := HR.out.kept hk
    exact ⟨⟨hP.cell 0 _ rfl, hP.cell 1 _ rfl, hP.cell 2 _ rfl, hP.cell 3 _ rfl, hR.cell 0 _ rfl, hR.cell 1 _ rfl, hR.cell 2 _ rfl, hR.cell 3 _ rfl, hP.free 0, hP.free 1, hP.free 2, hP.free 3, hR.free 0, hR.free 1, hR.free 2, hR.free 3⟩, hP.lt, HK.out.trans hk⟩
  clear cP0 cR0 fP0 fR0 cP1 cR1 fP1 fR1 cP2 cR2 fP2 fR2 cP3 cR3 fP3 fR3 hzP hzR
  clear HK HP HR HS
  go_region_with (first
    | (go_at_call_of 139 (Value.string (bs b)); refine (clean_any b _ (by exact HG.out) (by omega)).mono ?_; rintro e w9 ⟨rfl, hk9⟩; rw [HFB.out]; obtain ⟨q1, q2, q3⟩ := HK2.out hk9; have HQ2 := Lib.hid q2; have HK9 := Lib.hid ((kept_drewN wz 1).trans hk9); clear q2 hk9)
    | (go_at_call_of 139 (Value.string (bs c)); refine (clean_any c _ (by exact HQ2.out) (by omega)).mono ?_; rintro e w10 ⟨rfl, hk10⟩; rw [HFC.out]; have HK10 := Lib.hid (HK9.out.trans hk10); clear hk10; obtain ⟨⟨q0, q1, q2, q3, q4, q5, q6, q7, q8, q9, q10, q11, q12, q13, q14, q15⟩, q20, q21⟩ := HK3.out HK10.out; have HKF := Lib.hid q21; clear q21))
  all_goals
    go_wp2_with fail
    refine bodyPost_ret (v := .tuple #[persV [] [] [] [], .int .i64 8]) ?_ rfl ⟨rfl, ?_⟩
    · clear HK2 HK3 HK9 HK10 HKF
      simp [results, Tryz.results144, go_sem, q0, q1, q2, q3, q4, q5, q6, q7, q8, q9, q10, q11, q12, q13, q14, q15, q20]
    · exact kept_set (kept_set (kept_set (kept_set (kept_set (kept_set (HKF.out) _ _ _ (by omega)) _ _ _ (by omega)) _ _ _ (by omega)) _ _ _ (by omega)) _ _ _ (by omega)) _ _ _ (by omega)

end Go.Proofs.YteflhlbgbgamnaaGreatDoor

/- What person.Parse answers, and that it does. Conditions: the length of the text. -/
set_option linter.all false
namespace Go.Proofs.YteflhlbgbgamnaaGreatDoor
open Go.RowKit

abbrev P4 := Bs × Bs × Bs × Bs
abbrev p4V (q : P4) : Value := persV q.1 q.2.1 q.2.2.1 q.2.2.2
def zero4 : P4 := ([], [], [], [])
/-- The fields of the rest: family, given, suffix. -/
def fieldsP (rest : Bs) : Bs × Bs × Bs :=
  match splitC 44 rest with
  | [a] => (cleanL a, [], [])
  | [a, b] => (cleanL a, cleanL b, [])
  | [a, b, c] => (cleanL a, cleanL c, cleanL b)
  | _ => ([], [], [])
/-- The particle and the rest; none: a brace is not closed. -/
def restP (t : Bs) : Option (Bs × Bs) :=
  match t with
  | [] => some ([], [])
  | x :: r => if x = 123 then (if before 125 r < r.length then some (cleanL (r.take (before 125 r)), r.drop (before 125 r + 1)) else none) else some ([], x :: r)
def badP (p t : Bs) : Prop := 2 < t.count 44 ∨ p.any (inSet setC) = true ∨ t.any (inSet setN) = true
instance (p t : Bs) : Decidable (badP p t) := by unfold badP; infer_instance
def restR (p t : Bs) : Int × P4 := if badP p t then (5, zero4) else if (fieldsP t).1 = [] then (8, zero4) else (0, ((fieldsP t).1, (fieldsP t).2.1, p, (fieldsP t).2.2))
/-- The error and the person that a text denotes. -/
def parseR (l : Bs) : Int × P4 :=
  if lineB l = true then (match restP (cleanL l) with | none => (5, zero4) | some (p, t) => restR p t) else (17, zero4)

theorem sum_mem_le (xs : List Bs) (x : Bs) (h : x ∈ xs) : x.length + 1 ≤ (xs.map (fun x => x.length + 1)).sum := by
  induction xs with
  | nil => cases h
  | cons a r ih =>
    simp only [List.map_cons, List.sum_cons]
    rcases List.mem_cons.1 h with rfl | h
    · omega
    · have := ih h; omega
theorem split_mem_le (c : UInt8) (l x : Bs) (h : x ∈ splitC c l) : x.length ≤ l.length := by
  have := sum_mem_le _ x h; rw [splitC_sum] at this; omega
theorem split_three (t : Bs) (h : t.count 44 ≤ 2) : (∃ a, splitC 44 t = [a]) ∨ (∃ a b, splitC 44 t = [a, b]) ∨ ∃ a b c, splitC 44 t = [a, b, c] := by
  have hl := splitC_length 44 t
  match hs : splitC 44 t with
  | [] => rw [hs] at hl; simp at hl
  | [a] => exact .inl ⟨a, rfl⟩
  | [a, b] => exact .inr (.inl ⟨a, b, rfl⟩)
  | [a, b, c] => exact .inr (.inr ⟨a, b, c, rfl⟩)
  | a :: b :: c :: d :: r => rw [hs] at hl; simp at hl; omega
def ParsePost (l : Bs) (w : World) (e : Ending) (w' : World) : Prop := e = .returned (.tuple #[p4V (parseR l).2, .int .i64 (parseR l).1]) ∧ Kept w w'
theorem ParsePost.mk {l : Bs} {w : World} {e : Ending} {w' : World} {n : Int} {q : P4} (h : parseR l = (n, q)) (he : e = .returned (.tuple #[p4V q, .int .i64 n])) (hk : Kept w w') : ParsePost l w e w' := by
  unfold ParsePost; rw [h]; exact ⟨he, hk⟩

set_option maxRecDepth 100000 in
theorem parse_noline (l : Bs) (w : World) (hs : l.length ≤ 1000000) (hl : lineB l = false) :
    Calls Tryz.prog 144 #[.string (bs l)] w fun e w' => e = .returned (.tuple #[persV [] [] [] [], .int .i64 17]) ∧ Kept w w' := by
  go_enter Tryz.func144, Tryz.ntmps144
  go_wp2_with fail
  refine (line_any l _ (by omega)).mono ?_
  rintro e w1 ⟨rfl, n, rfl⟩
  rw [hl]
  go_wp2_with fail
  have hkk := (kept_alloc w (.cells #[.string (bs []), .string (bs []), .string (bs []), .string (bs [])] 32)).trans (kept_drewN _ n)
  exact bodyPost_ret (v := .tuple #[persV [] [] [] [], .int .i64 17]) (by simp [results, Tryz.results144, go_sem]) rfl ⟨rfl, kept_set (kept_set (kept_set (kept_set (hkk) _ _ _ (Nat.le_refl _)) _ _ _ (Nat.le_refl _)) _ _ _ (Nat.le_refl _)) _ _ _ (Nat.le_refl _)⟩

theorem fields1 (t a : Bs) (h : splitC 44 t = [a]) : fieldsP t = (cleanL a, [], []) := by unfold fieldsP; rw [h]
theorem fields2 (t a b : Bs) (h : splitC 44 t = [a, b]) : fieldsP t = (cleanL a, cleanL b, []) := by unfold fieldsP; rw [h]
theorem fields3 (t a b c : Bs) (h : splitC 44 t = [a, b, c]) : fieldsP t = (cleanL a, cleanL c, cleanL b) := by unfold fieldsP; rw [h]

theorem parse_any (l : Bs) (w : World) (hg : Gnd w) (hs : l.length ≤ 1000000) :
    Calls Tryz.prog 144 #[.string (bs l)] w (ParsePost l w) := by
  cases hl : lineB l
  · exact (parse_noline l w hs hl).mono fun e w' ⟨he, hk⟩ => ParsePost.mk (q := zero4) (by unfold parseR; rw [hl]; rfl) he hk
  have hcl := cleanL_le l
  have e0 : parseR l = (match restP (cleanL l) with | none => (5, zero4) | some (p, t) => restR p t) := by unfold parseR; rw [hl]; rfl
  by_cases hb : ∃ r, cleanL l = 123 :: r
  · obtain ⟨r, hr⟩ := hb
    have hrl : r.length ≤ 1000001 := by rw [hr] at hcl; simp at hcl; omega
    by_cases hbr : before 125 r < r.length
    · have e1 : parseR l = restR (cleanL (r.take (before 125 r))) (r.drop (before 125 r + 1)) := by
        rw [e0, hr]; simp only [restP, if_true]; rw [if_pos hbr]
      have hpl : (cleanL (r.take (before 125 r))).length ≤ 1000010 := by have := cleanL_le (r.take (before 125 r)); simp at this; omega
      have htl : (r.drop (before 125 r + 1)).length ≤ 1000001 := by simp; omega
      obtain ⟨p, hp⟩ : ∃ p, cleanL (r.take (before 125 r)) = p := ⟨_, rfl⟩
      obtain ⟨t, ht⟩ : ∃ t, r.drop (before 125 r + 1) = t := ⟨_, rfl⟩
      rw [hp, ht] at e1
      rw [hp] at hpl
      rw [ht] at htl
      by_cases hc : 2 < t.count 44
      · exact (parse_count_b l w hg hs hl r p t hr hrl hbr hp ht hpl htl hc).mono fun e w' ⟨he, hk⟩ => ParsePost.mk (q := zero4) (by rw [e1]; unfold restR; rw [if_pos (.inl hc)]) he hk
      cases ha1 : p.any (inSet setC)
      case true => exact (parse_any1_b l w hg hs hl r p t hr hrl hbr hp ht hpl htl (by omega) ha1).mono fun e w' ⟨he, hk⟩ => ParsePost.mk (q := zero4) (by rw [e1]; unfold restR; rw [if_pos (.inr (.inl ha1))]) he hk
      cases ha2 : t.any (inSet setN)
      case true => exact (parse_any2_b l w hg hs hl r p t hr hrl hbr hp ht hpl htl (by omega) ha1 ha2).mono fun e w' ⟨he, hk⟩ => ParsePost.mk (q := zero4) (by rw [e1]; unfold restR; rw [if_pos (.inr (.inr ha2))]) he hk
      have hnb : ¬ badP p t := by unfold badP; rw [ha1, ha2]; simp; omega
      have e2 : parseR l = if (fieldsP t).1 = [] then (8, zero4) else (0, ((fieldsP t).1, (fieldsP t).2.1, p, (fieldsP t).2.2)) := by rw [e1]; unfold restR; rw [if_neg hnb]
      rcases split_three t (by omega) with ⟨a, hsp⟩ | ⟨a, b, hsp⟩ | ⟨a, b, c, hsp⟩
      · have la := split_mem_le 44 t a (by rw [hsp]; simp)
        rw [fields1 t a hsp] at e2
        by_cases hf : cleanL a = []
        · exact (parse_none1_b l w hg hs hl r p t hr hrl hbr hp ht hpl htl (by omega) ha1 ha2 a hsp (by omega) hf).mono fun e w' ⟨he, hk⟩ => ParsePost.mk (q := zero4) (by rw [e2, if_pos hf]) he hk
        · exact (parse_ok1_b l w hg hs hl r p t hr hrl hbr hp ht hpl htl (by omega) ha1 ha2 a hsp (by omega) _ rfl hf (by simpa using hf)).mono fun e w' ⟨he, hk⟩ => ParsePost.mk (by rw [e2, if_neg hf]) he hk
      · have la := split_mem_le 44 t a (by rw [hsp]; simp)
        have lb := split_mem_le 44 t b (by rw [hsp]; simp)
        rw [fields2 t a b hsp] at e2
        by_cases hf : cleanL a = []
        · exact (parse_none2_b l w hg hs hl r p t hr hrl hbr hp ht hpl htl (by omega) ha1 ha2 a b hsp (by omega) (by omega) hf _ rfl).mono fun e w' ⟨he, hk⟩ => ParsePost.mk (q := zero4) (by rw [e2, if_pos hf]) he hk
        · exact (parse_ok2_b l w hg hs hl r p t hr hrl hbr hp ht hpl htl (by omega) ha1 ha2 a b hsp (by omega) (by omega) _ rfl _ rfl hf (by simpa using hf)).mono fun e w' ⟨he, hk⟩ => ParsePost.mk (by rw [e2, if_neg hf]) he hk
      · have la := split_mem_le 44 t a (by rw [hsp]; simp)
        have lb := split_mem_le 44 t b (by rw [hsp]; simp)
        have lc := split_mem_le 44 t c (by rw [hsp]; simp)
        rw [fields3 t a b c hsp] at e2
        by_cases hf : cleanL a = []
        · exact (parse_none3_b l w hg hs hl r p t hr hrl hbr hp ht hpl htl (by omega) ha1 ha2 a b c hsp (by omega) (by omega) (by omega) hf _ rfl _ rfl).mono fun e w' ⟨he, hk⟩ => ParsePost.mk (q := zero4) (by rw [e2, if_pos hf]) he hk
        · exact (parse_ok3_b l w hg hs hl r p t hr hrl hbr hp ht hpl htl (by omega) ha1 ha2 a b c hsp (by omega) (by omega) (by omega) _ rfl _ rfl _ rfl hf (by simpa using hf)).mono fun e w' ⟨he, hk⟩ => ParsePost.mk (by rw [e2, if_neg hf]) he hk
    · exact (parse_open l w hg hs hl r [] [] hr hrl hbr).mono fun e w' ⟨he, hk⟩ => ParsePost.mk (q := zero4) (by rw [e0, hr]; simp only [restP, if_true]; rw [if_neg hbr]) he hk
  · obtain ⟨t, ht⟩ : ∃ t, cleanL l = t := ⟨_, rfl⟩
    have hnb : ∀ r, t ≠ 123 :: r := fun r q => hb ⟨r, by rw [ht, q]⟩
    have e1 : parseR l = restR [] t := by
      rw [e0, ht]
      cases t with
      | nil => rfl
      | cons x r => simp only [restP]; rw [if_neg (fun q => hnb r (by rw [q]))]
    have htl : t.length ≤ 1000001 := by rw [ht] at hcl; omega
    have ha1 : ([] : Bs).any (inSet setC) = false := rfl
    by_cases hc : 2 < t.count 44
    · exact (parse_count_n l w hg hs hl t ht hnb htl hc).mono fun e w' ⟨he, hk⟩ => ParsePost.mk (q := zero4) (by rw [e1]; unfold restR; rw [if_pos (.inl hc)]) he hk
    cases ha2 : t.any (inSet setN)
    case true => exact (parse_any2_n l w hg hs hl t ht hnb htl (by omega) ha1 ha2).mono fun e w' ⟨he, hk⟩ => ParsePost.mk (q := zero4) (by rw [e1]; unfold restR; rw [if_pos (.inr (.inr ha2))]) he hk
    have hnb' : ¬ badP [] t := by unfold badP; rw [ha1, ha2]; simp; omega
    have e2 : parseR l = if (fieldsP t).1 = [] then (8, zero4) else (0, ((fieldsP t).1, (fieldsP t).2.1, [], (fieldsP t).2.2)) := by rw [e1]; unfold restR; rw [if_neg hnb']
    rcases split_three t (by omega) with ⟨a, hsp⟩ | ⟨a, b, hsp⟩ | ⟨a, b, c, hsp⟩
    · have la := split_mem_le 44 t a (by rw [hsp]; simp)
      rw [fields1 t a hsp] at e2
      by_cases hf : cleanL a = []
      · exact (parse_none1_n l w hg hs hl t ht hnb htl (by omega) ha1 ha2 a hsp (by omega) hf).mono fun e w' ⟨he, hk⟩ => ParsePost.mk (q := zero4) (by rw [e2, if_pos hf]) he hk
      · exact (parse_ok1_n l w hg hs hl t ht hnb htl (by omega) ha1 ha2 a hsp (by omega) _ rfl hf (by simpa using hf)).mono fun e w' ⟨he, hk⟩ => ParsePost.mk (by rw [e2, if_neg hf]) he hk
    · have la := split_mem_le 44 t a (by rw [hsp]; simp)
      have lb := split_mem_le 44 t b (by rw [hsp]; simp)
      rw [fields2 t a b hsp] at e2
      by_cases hf : cleanL a = []
      · exact (parse_none2_n l w hg hs hl t ht hnb htl (by omega) ha1 ha2 a b hsp (by omega) (by omega) hf _ rfl).mono fun e w' ⟨he, hk⟩ => ParsePost.mk (q := zero4) (by rw [e2, if_pos hf]) he hk
      · exact (parse_ok2_n l w hg hs hl t ht hnb htl (by omega) ha1 ha2 a b hsp (by omega) (by omega) _ rfl _ rfl hf (by simpa using hf)).mono fun e w' ⟨he, hk⟩ => ParsePost.mk (by rw [e2, if_neg hf]) he hk
    · have la := split_mem_le 44 t a (by rw [hsp]; simp)
      have lb := split_mem_le 44 t b (by rw [hsp]; simp)
      have lc := split_mem_le 44 t c (by rw [hsp]; simp)
      rw [fields3 t a b c hsp] at e2
      by_cases hf : cleanL a = []
      · exact (parse_none3_n l w hg hs hl t ht hnb htl (by omega) ha1 ha2 a b c hsp (by omega) (by omega) (by omega) hf _ rfl _ rfl).mono fun e w' ⟨he, hk⟩ => ParsePost.mk (q := zero4) (by rw [e2, if_pos hf]) he hk
      · exact (parse_ok3_n l w hg hs hl t ht hnb htl (by omega) ha1 ha2 a b c hsp (by omega) (by omega) (by omega) _ rfl _ rfl _ rfl hf (by simpa using hf)).mono fun e w' ⟨he, hk⟩ => ParsePost.mk (by rw [e2, if_neg hf]) he hk
end Go.Proofs.YteflhlbgbgamnaaGreatDoor
