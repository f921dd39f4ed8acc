/- tree.Inlines: all inlines of blocks. Conditions: lengths. -/
import Derived.Test.YtmcoomlkbgiboaaGreatDoorK35
import Derived.Test.YtmcoomlkbgiboaaGreatDoorK08
import Derived.Test.YtmcoomlkbgiboaaGreatDoorK13
import Derived.Test.YtmcoomlkbgiboaaGreatDoorK10
import Derived.Test.YtmcoomlkbgiboaaGreatDoorK03
import Derived.Test.YtmcoomlkbgiboaaGreatDoorK01
import Derived.Laws.EntriesVeiled

set_option linter.all false
namespace Go.Proofs.YtmcoomlkbgiboaaGreatDoor
open Go.RowKit

/-- What tree.Inlines gives: a new slice of all inlines. -/
def InlsP (D N:Nat) (xs:List Inl) (w:World) (e:Ending) (w':World):Prop:=∃ v,e=.returned v∧Lns (fun g=>g<D∨w.heap.size≤g) (N+1) w' v xs∧Kept w w'
set_option maxRecDepth 100000 in
set_option maxHeartbeats 3200000 in
theorem inlines_any (m N D:Nat) (v:Value) (xs:List Blo) (w:World) (hD:D≤w.heap.size) (hv:Bls (fun g=>g<D) N m w v xs) (hl:xs.length≤1000000) (hok:okBL xs) (hn:(inlsL xs).length≤1000000) :
  Calls Tryz.prog 31 #[v] w (InlsP D N (inlsL xs) w):=by
 obtain ⟨a,c,rfl,hc⟩:=hv.form
 obtain ⟨B,HB⟩:∃ B,Hid (w.heap.size=B):=⟨_,rfl⟩
 rw [HB.out] at hD
 have HV:=Lib.hid hv
 have HCALL:=Lib.hid (fun vO w'=>inline2_any (fun g=>g<D∨B+3≤g) N D B (B+1) (B+2) (B+3) (fun g h=>by omega) (fun g h=>.inl h) (fun g h=>.inr h) hD (by omega) (by omega) (by omega) (by omega) (by omega) (by omega) (by omega) m xs (.slice a xs.length c) [] vO w')
 unfold In1P at HCALL
 unfold InlsP
 clear hv
 go_enter Tryz.func31,Tryz.ntmps31
 go_wp2_with fail
 rw [HB.out]
 have b0:=Blk.new w 57 #[.slice none 0 0]
 have b1:=Blk.new (w.alloc (.cells #[.slice none 0 0] 57)) 142 #[inF B (B+1)]
 have k1:=kept_alloc (w.alloc (.cells #[.slice none 0 0] 57)) (.cells #[inF B (B+1)] 142)
 have e1:(w.alloc (.cells #[.slice none 0 0] 57)).heap.size=B+1:=by rw [← HB.out]; simp
 have k0:=kept_alloc w (.cells #[.slice none 0 0] 57)
 rw [HB.out] at b0
 rw [e1] at b1
 have e2:((w.alloc (.cells #[.slice none 0 0] 57)).alloc (.cells #[inF B (B+1)] 142)).heap.size=B+2:=by simp; rw [← HB.out]
 have b2:=Blk.new ((w.alloc (.cells #[.slice none 0 0] 57)).alloc (.cells #[inF B (B+1)] 142)) 146 #[blF (B+1) (B+2)]
 have k2:=kept_alloc ((w.alloc (.cells #[.slice none 0 0] 57)).alloc (.cells #[inF B (B+1)] 142)) (.cells #[blF (B+1) (B+2)] 146)
 have e3:(((w.alloc (.cells #[.slice none 0 0] 57)).alloc (.cells #[inF B (B+1)] 142)).alloc (.cells #[blF (B+1) (B+2)] 146)).heap.size=B+3:=by simp; rw [← HB.out]
 rw [e2] at b2
 have c0:=(b0.kept k1).kept k2
 have c1:=b1.kept k2
 have K:=Lib.hid ((k0.trans k1).trans k2)
 generalize World.alloc _ (.cells #[blF (B+1) (B+2)] 146)=w3 at *
 have hin:=(HCALL.out (.slice none 0 0) w3 (HV.out.kept K.out) hl hok (Nat.le_of_eq e3.symm) c0 c1 b2 (OutG.nil _ _ _ _ _ _) (by simpa using hn))
 have HIN:=Lib.hid hin
 clear hin b0 b1 b2 c0 c1 k0 k1 k2 e1 e2 HCALL
 refine HIN.out.mono ?_
 rintro e w4 ⟨rfl,vO,hO,hout,hon⟩
 have t:=hO.cell 0 _ rfl
 have hsz:=HB.out
 have hR:Lns (fun g=>g<D∨w.heap.size≤g) (N+1) w4 vO (inlsL xs):=OutG.row (S:=fun g=>g<D∨w.heap.size≤g) (inlK N) hout (fun g _ h=>by omega) (fun g h=>.inr (by omega))
 have HR:=Lib.hid hR
 have HKK:Hid (Kept w w4):=K.out.trans' (hon.below K.out.size (fun i h=>by omega))
 clear hR hO hout hon
 go_wp2_with fail
 go_ret
 exact ⟨vO,rfl,HR.out,HKK.out⟩
end Go.Proofs.YtmcoomlkbgiboaaGreatDoor

/- tree.mergedInline: a copy of an inline whose kids are merged. Conditions: lengths. -/
set_option linter.all false
namespace Go.Proofs.YtmcoomlkbgiboaaGreatDoor
open Go.RowKit

theorem holdQ {p:Prop} (h:Hid p):p:=h.out
end Go.Proofs.YtmcoomlkbgiboaaGreatDoor

/- tree.mergedInline: a copy of an inline whose kids are merged; their plain text stays. Conditions: lengths. -/
set_option linter.all false
namespace Go.Proofs.YtmcoomlkbgiboaaGreatDoor
open Go.RowKit

/-- Merged inlines: their plain text. -/
def MgQ (n m:Nat) (pl:Bs) (w:World) (e:Ending) (w':World):Prop:=∃ v ys,e=.returned v∧Lns (fun g=>w.heap.size≤g) n w' v ys∧ys.length≤m∧plainL ys=pl∧Kept w w'
def MiQ (pl:Bs) (n:Nat) (kind:Int) (text dest title id:Bs) (cls:List Bs) (prs:List Pr) (args:List Bs) (cits:List Cit) (w:World) (e:Ending) (w':World):Prop :=
 ∃ cs ys,e=.returned (.agg cs.toArray)∧InlK n (fun g=>w.heap.size≤g) w' cs (Inl.mk kind text dest title id cls prs args cits ys)∧plainL ys=pl∧Kept w w'
set_option maxRecDepth 100000 in
set_option maxHeartbeats 6400000 in
theorem minl_pl {S:Nat→Prop} (n:Nat) (hih:∀ (xs:List Inl) (v:Value) (w:World),Lns S n w v xs→xs.length≤1000000→okIL xs→Calls Tryz.prog 129 #[v] w (MgQ n xs.length (plainL xs) w))
  (kind:Int) (text dest title id:Bs) (cls:List Bs) (prs:List Pr) (args:List Bs) (cits:List Cit) (kids:List Inl) (vC vP vA vT vK:Value) (w:World) (hC:Strs w vC cls) (hP:Prs w vP prs) (hA:Strs w vA args) (hT:Cits S w vT cits) (hK:Lns S n w vK kids)
  (h5:cls.length≤1000000) (h6:prs.length≤1000000) (h7:args.length≤1000000) (h8:cits.length≤1000000) (h9:kids.length≤1000000) (hok:okIL kids) :
  Calls Tryz.prog 177 #[.agg #[.int .i64 kind,.string (bs text),.string (bs dest),.string (bs title),.string (bs id),vC,vP,vA,vT,vK]] w (MiQ (plainL kids) n kind text dest title id cls prs args cits w):=by
 have HC:=Lib.hid hC
 have HP:=Lib.hid hP
 have HA:=Lib.hid hA
 have HT:=Lib.hid hT
 have HK:=Lib.hid hK
 have HOK:=Lib.hid hok
 have HIH:=Lib.hid hih
 unfold MgQ at HIH
 obtain ⟨aC,cC,rfl,lC⟩:=hC.shape
 obtain ⟨aP,cP,rfl,lP⟩:=hP.shape
 obtain ⟨aA,cA,rfl,lA⟩:=hA.shape
 obtain ⟨aT,cT,rfl,lT⟩:=hT.form
 obtain ⟨aK,cK,rfl,lK⟩:=hK.form
 have HAT:=Lib.hid (fun w h1 h2=>tcat_any id (.slice aC cls.length cC) (.slice aP prs.length cP) cls prs w h1 h2 (by omega) (by omega))
 unfold CatP at HAT
 have HCS:=Lib.hid (fun w h=>clnS (.slice aA args.length cA) args w h (by omega))
 unfold ClnS at HCS
 have HCT:=Lib.hid (fun w h=>clnT (S:=S) (.slice aT cits.length cT) cits w h (by omega))
 unfold ClnT at HCT
 have e1:(w.alloc (.cells #[.int .i64 kind,.string (bs text),.string (bs dest),.string (bs title),.string (bs id),.slice aC cls.length cC,.slice aP prs.length cP,.slice aA args.length cA,.slice aT cits.length cT,.slice aK kids.length cK] 71)).heap.size=w.heap.size+1:=by simp
 have HB0:=Lib.hid ((Blk.new w 71 #[.int .i64 kind,.string (bs text),.string (bs dest),.string (bs title),.string (bs id),.slice aC cls.length cC,.slice aP prs.length cP,.slice aA args.length cA,.slice aT cits.length cT,.slice aK kids.length cK]).alloc (.cells #[.int .i64 0,.string (bs []),.string (bs []),.string (bs []),.string (bs []),.slice none 0 0,.slice none 0 0,.slice none 0 0,.slice none 0 0,.slice none 0 0] 71))
 have HR0:=Blk.new (w.alloc (.cells #[.int .i64 kind,.string (bs text),.string (bs dest),.string (bs title),.string (bs id),.slice aC cls.length cC,.slice aP prs.length cP,.slice aA args.length cA,.slice aT cits.length cT,.slice aK kids.length cK] 71)) 71 #[.int .i64 0,.string (bs []),.string (bs []),.string (bs []),.string (bs []),.slice none 0 0,.slice none 0 0,.slice none 0 0,.slice none 0 0,.slice none 0 0]
 rw [e1] at HR0
 have HR:=Lib.hid HR0
 have HK0:=Lib.hid ((kept_alloc w (.cells #[.int .i64 kind,.string (bs text),.string (bs dest),.string (bs title),.string (bs id),.slice aC cls.length cC,.slice aP prs.length cP,.slice aA args.length cA,.slice aT cits.length cT,.slice aK kids.length cK] 71)).trans (kept_alloc _ (.cells #[.int .i64 0,.string (bs []),.string (bs []),.string (bs []),.string (bs []),.slice none 0 0,.slice none 0 0,.slice none 0 0,.slice none 0 0,.slice none 0 0] 71)))
 clear HR0 e1 hC hP hA hT hK hok hih
 obtain ⟨B,HBB⟩:∃ B,Hid (w.heap.size=B):=⟨_,rfl⟩
 have hBz:w.heap.size≤B:=by rw [HBB.out]; exact Nat.le_refl _
 have hBz1:w.heap.size≤B+1:=by omega
 go_enter Tryz.func177,Tryz.ntmps177
 go_wp2_with fail
 generalize World.alloc (World.alloc _ _) _=w0 at *
 rw [HBB.out] at HB0 HR ⊢
 clear HBB
 have hBw0:B<w0.heap.size:=HB0.out.lt
 have hRw0:B+1<w0.heap.size:=HR.out.lt
 refine (HAT.out _ (HC.out.kept HK0.out) (HP.out.kept HK0.out)).mono ?_
 rintro e w1 ⟨vC1,vP1,rfl,⟨hc1,hi1⟩,⟨hp1,hj1⟩,hk1⟩
 obtain ⟨aC1,cC1,rfl,lC1⟩:=hc1.shape
 obtain ⟨aP1,cP1,rfl,lP1⟩:=hp1.shape
 have HC1:=Lib.hid hc1
 have HP1:=Lib.hid hp1
 have HIC:Hid (InB (fun g=>B+1<g) (.slice aC1 cls.length cC1) cls.length):=hi1.mono (fun g _ _ q=>by omega)
 have HIP:Hid (InB (fun g=>B+1<g) (.slice aP1 prs.length cP1) prs.length):=hj1.mono (fun g _ _ q=>by omega)
 have HB1:=Lib.hid (HB0.out.kept hk1)
 have HR1:=Lib.hid (HR.out.kept hk1)
 have HK1:=Lib.hid (HK0.out.trans hk1)
 clear hc1 hp1 hi1 hj1 hk1 HB0 HR HK0 HAT HC HP
 go_wp2_with (refine wpList_store_part rfl 56 (.tmp 6) (.tmp 5) (by rfl) B 4 71 _ #[.string (bs id),.slice aC1 cls.length cC1,.slice aP1 prs.length cP1] (by rfl) (by rfl) HB1.out (by show 4+3≤10; omega) Tryz.sizeAt (by simp only [List.all_toArray,List.all_cons,List.all_nil]; rfl) ?_; intro w2 hb2 ho2; refine holdQ ?_)
 refine Lib.hid ?_
 have HB2:Hid (Blk w2 B 71 #[.int .i64 kind,.string (bs text),.string (bs dest),.string (bs title),.string (bs id),.slice aC1 cls.length cC1,.slice aP1 prs.length cP1,.slice aA args.length cA,.slice aT cits.length cT,.slice aK kids.length cK]):=hb2
 have b7:w2.cell? ⟨B,7,none⟩=some (.slice aA args.length cA):=HB2.out.cell 7 _ rfl
 have bz:=HB2.out.lt
 have HR2:=Lib.hid (HR1.out.onl ho2 (by omega))
 have HK2:=Lib.hid (HK1.out.trans' (ho2.below HK1.out.size (fun i e=>by rw [e]; exact hBz)))
 have HC2:=Lib.hid (HC1.out.onlS HIC.out ho2 (fun g _ hs q=>by omega))
 have HP2:=Lib.hid (HP1.out.onlS HIP.out ho2 (fun g _ hs q=>by omega))
 clear hb2 ho2 HB1 HR1 HK1 HC1 HP1
 go_wp2_with fail
 refine (HCS.out _ (HA.out.kept HK2.out)).mono ?_
 rintro e w3 ⟨vA1,rfl,ha3,hi3,hk3⟩
 obtain ⟨aA1,cA1,rfl,lA1⟩:=ha3.shape
 have HIA:Hid (InB (fun g=>B+1<g) (.slice aA1 args.length cA1) args.length):=hi3.mono (fun g _ _ q=>by have:=HR2.out.lt; omega)
 have hb3:=HB2.out.kept hk3
 have a3:w3.cell? ⟨B,7,none⟩=some (.slice aA args.length cA):=hb3.cell 7 _ rfl
 have f3:=hb3.free 7
 have z3:=hb3.lt
 have ho4:=Only.setCell (w:=w3) B 7 (.slice aA1 args.length cA1)
 have HB4:Hid (Blk (w3.setCell ⟨B,7,none⟩ (.slice aA1 args.length cA1)) B 71 #[.int .i64 kind,.string (bs text),.string (bs dest),.string (bs title),.string (bs id),.slice aC1 cls.length cC1,.slice aP1 prs.length cP1,.slice aA1 args.length cA1,.slice aT cits.length cT,.slice aK kids.length cK]):=hb3.set 7 _
 have t4:(w3.setCell ⟨B,7,none⟩ (.slice aA1 args.length cA1)).cell? ⟨B,8,none⟩=some (.slice aT cits.length cT):=HB4.out.cell 8 _ rfl
 have HR4:=Lib.hid ((HR2.out.kept hk3).onl ho4 (by omega))
 have HK4:=Lib.hid ((HK2.out.trans hk3).trans' (ho4.below (HK2.out.trans hk3).size (fun i e=>by rw [e]; exact hBz)))
 have HC4:=Lib.hid ((HC2.out.kept hk3).onlS HIC.out ho4 (fun g _ hs q=>by omega))
 have HP4:=Lib.hid ((HP2.out.kept hk3).onlS HIP.out ho4 (fun g _ hs q=>by omega))
 have HA4:=Lib.hid (ha3.onlS HIA.out ho4 (fun g _ hs q=>by omega))
 clear ha3 hi3 hk3 hb3 ho4 HB2 HR2 HK2 HC2 HP2 b7 bz HA HCS
 go_wp2_with fail
 generalize World.setCell _ _ _=w4 at *
 clear a3 f3 z3
 refine (HCT.out _ (HT.out.sam (S':=S) (Sam.kept HK4.out) (fun _ _ q=>q))).mono ?_
 rintro e w5 ⟨vT1,rfl,ht5,hk5⟩
 obtain ⟨aT1,cT1,rfl,lT1⟩:=ht5.form
 have hb5:=HB4.out.kept hk5
 have a5:w5.cell? ⟨B,8,none⟩=some (.slice aT cits.length cT):=hb5.cell 8 _ rfl
 have f5:=hb5.free 8
 have z5:=hb5.lt
 have hr4:=HR4.out.lt
 have ht5':Cits (fun g=>B+1<g) w5 (.slice aT1 cits.length cT1) cits:=ht5.sam (fun _ _ _=>rfl) (fun g _ q=>by omega)
 have ho6:=Only.setCell (w:=w5) B 8 (.slice aT1 cits.length cT1)
 have HB6:Hid (Blk (w5.setCell ⟨B,8,none⟩ (.slice aT1 cits.length cT1)) B 71 #[.int .i64 kind,.string (bs text),.string (bs dest),.string (bs title),.string (bs id),.slice aC1 cls.length cC1,.slice aP1 prs.length cP1,.slice aA1 args.length cA1,.slice aT1 cits.length cT1,.slice aK kids.length cK]):=hb5.set 8 _
 have t6:(w5.setCell ⟨B,8,none⟩ (.slice aT1 cits.length cT1)).cell? ⟨B,9,none⟩=some (.slice aK kids.length cK):=HB6.out.cell 9 _ rfl
 have HR6:=Lib.hid ((HR4.out.kept hk5).onl ho6 (by omega))
 have HK6:=Lib.hid ((HK4.out.trans hk5).trans' (ho6.below (HK4.out.trans hk5).size (fun i e=>by rw [e]; exact hBz)))
 have HC6:=Lib.hid ((HC4.out.kept hk5).onlS HIC.out ho6 (fun g _ hs q=>by omega))
 have HP6:=Lib.hid ((HP4.out.kept hk5).onlS HIP.out ho6 (fun g _ hs q=>by omega))
 have HA6:=Lib.hid ((HA4.out.kept hk5).onlS HIA.out ho6 (fun g _ hs q=>by omega))
 have HT6:=Lib.hid (ht5'.sam (S':=fun g=>B+1<g) (Sam.only ho6 (fun g _ hs q=>by omega)) (fun _ _ q=>q))
 clear ht5 ht5' hk5 hb5 ho6 HB4 HR4 HK4 HC4 HP4 HA4 t4 HT HCT hr4
 go_wp2_with fail
 generalize World.setCell _ _ _=w6 at *
 clear a5 f5 z5
 refine (HIH.out kids (.slice aK kids.length cK) w6 (HK.out.kept HK6.out) h9 HOK.out).mono ?_
 rintro e w7 ⟨vK1,ys,rfl,hl7,hn7,hpl7,hk7⟩
 have HPL7:=Lib.hid hpl7
 clear hpl7
 obtain ⟨aK1,cK1,rfl,lK1⟩:=hl7.form
 have hb7:=HB6.out.kept hk7
 have a7:w7.cell? ⟨B,9,none⟩=some (.slice aK kids.length cK):=hb7.cell 9 _ rfl
 have f7:=hb7.free 9
 have z7:=hb7.lt
 have hr6:=HR6.out.lt
 have hl7':Lns (fun g=>B+1<g) n w7 (.slice aK1 ys.length cK1) ys:=hl7.mono (fun g _ q=>by omega)
 have ho8:=Only.setCell (w:=w7) B 9 (.slice aK1 ys.length cK1)
 have HB8:Hid (Blk (w7.setCell ⟨B,9,none⟩ (.slice aK1 ys.length cK1)) B 71 #[.int .i64 kind,.string (bs text),.string (bs dest),.string (bs title),.string (bs id),.slice aC1 cls.length cC1,.slice aP1 prs.length cP1,.slice aA1 args.length cA1,.slice aT1 cits.length cT1,.slice aK1 ys.length cK1]):=hb7.set 9 _
 have HR8:=Lib.hid ((HR6.out.kept hk7).onl ho8 (by omega))
 have HK8:=Lib.hid ((HK6.out.trans hk7).trans' (ho8.below (HK6.out.trans hk7).size (fun i e=>by rw [e]; exact hBz)))
 have HC8:=Lib.hid ((HC6.out.kept hk7).onlS HIC.out ho8 (fun g _ hs q=>by omega))
 have HP8:=Lib.hid ((HP6.out.kept hk7).onlS HIP.out ho8 (fun g _ hs q=>by omega))
 have HA8:=Lib.hid ((HA6.out.kept hk7).onlS HIA.out ho8 (fun g _ hs q=>by omega))
 have HT8:=Lib.hid ((HT6.out.sam (S':=fun g=>B+1<g) (Sam.kept hk7) (fun _ _ q=>q)).sam (S':=fun g=>B+1<g) (Sam.only ho8 (fun g _ hs q=>by omega)) (fun _ _ q=>q))
 have HL8:=Lib.hid (hl7'.sam (S':=fun g=>B+1<g) (Sam.only ho8 (fun g _ hs q=>by omega)) (fun _ _ q=>q))
 clear hl7 hl7' hk7 hb7 ho8 HB6 HR6 HK6 HC6 HP6 HA6 HT6 t6 HK HIH hr6
 go_wp2_with (first
  | (refine wpList_load_blk (by rfl) 71 (.tmp 1) (by rfl) B _ (by rfl) HB8.out _ Tryz.underlying71 rfl Tryz.sizeIn ?_)
  | (refine wpList_store_blk rfl 71 (.tmp 2) (.tmp 19) (by rfl) (B+1) _ #[.int .i64 kind,.string (bs text),.string (bs dest),.string (bs title),.string (bs id),.slice aC1 cls.length cC1,.slice aP1 prs.length cP1,.slice aA1 args.length cA1,.slice aT1 cits.length cT1,.slice aK1 ys.length cK1] (by rfl) (by rfl) HR8.out rfl Tryz.sizeIn (by simp only [List.all_toArray,List.all_cons,List.all_nil]; rfl) ?_; intro w9 hb9 ho9; refine holdQ ?_))
 refine Lib.hid ?_
 have r0:w9.cell? ⟨B+1,0,none⟩=some (.int .i64 kind):=hb9.cell 0 _ rfl
 have r1:w9.cell? ⟨B+1,1,none⟩=some (.string (bs text)):=hb9.cell 1 _ rfl
 have r2:w9.cell? ⟨B+1,2,none⟩=some (.string (bs dest)):=hb9.cell 2 _ rfl
 have r3:w9.cell? ⟨B+1,3,none⟩=some (.string (bs title)):=hb9.cell 3 _ rfl
 have r4:w9.cell? ⟨B+1,4,none⟩=some (.string (bs id)):=hb9.cell 4 _ rfl
 have r5:w9.cell? ⟨B+1,5,none⟩=some (.slice aC1 cls.length cC1):=hb9.cell 5 _ rfl
 have r6:w9.cell? ⟨B+1,6,none⟩=some (.slice aP1 prs.length cP1):=hb9.cell 6 _ rfl
 have r7:w9.cell? ⟨B+1,7,none⟩=some (.slice aA1 args.length cA1):=hb9.cell 7 _ rfl
 have r8:w9.cell? ⟨B+1,8,none⟩=some (.slice aT1 cits.length cT1):=hb9.cell 8 _ rfl
 have r9:w9.cell? ⟨B+1,9,none⟩=some (.slice aK1 ys.length cK1):=hb9.cell 9 _ rfl
 have rz:=hb9.lt
 have HK9:=Lib.hid (HK8.out.trans' (ho9.below HK8.out.size (fun i e=>by rw [e]; exact hBz1)))
 have HC9:=Lib.hid (HC8.out.onlS HIC.out ho9 (fun g _ hs q=>by omega))
 have HP9:=Lib.hid (HP8.out.onlS HIP.out ho9 (fun g _ hs q=>by omega))
 have HA9:=Lib.hid (HA8.out.onlS HIA.out ho9 (fun g _ hs q=>by omega))
 have HT9:=Lib.hid (HT8.out.sam (S':=fun g=>B+1<g) (Sam.only ho9 (fun g _ hs q=>by omega)) (fun _ _ q=>q))
 have HL9:=Lib.hid (HL8.out.sam (S':=fun g=>B+1<g) (Sam.only ho9 (fun g _ hs q=>by omega)) (fun _ _ q=>q))
 clear hb9 ho9
 have HFIN:MiQ (plainL kids) n kind text dest title id cls prs args cits w (.returned (.agg #[.int .i64 kind,.string (bs text),.string (bs dest),.string (bs title),.string (bs id),.slice aC1 cls.length cC1,.slice aP1 prs.length cP1,.slice aA1 args.length cA1,.slice aT1 cits.length cT1,.slice aK1 ys.length cK1])) w9:=⟨_,ys,rfl,⟨_,_,_,_,_,rfl,⟨HC9.out,HIC.out.mono fun g _ _ q=>by omega⟩,⟨HP9.out,HIP.out.mono fun g _ _ q=>by omega⟩,⟨HA9.out,HIA.out.mono fun g _ _ q=>by omega⟩,HT9.out.sam (fun _ _ _=>rfl) (fun g _ q=>by omega),HL9.out.mono (fun g _ q=>by omega)⟩,HPL7.out,HK9.out⟩
 go_wp2_with fail
 refine bodyPost_ret (v:=.agg #[.int .i64 kind,.string (bs text),.string (bs dest),.string (bs title),.string (bs id),.slice aC1 cls.length cC1,.slice aP1 prs.length cP1,.slice aA1 args.length cA1,.slice aT1 cits.length cT1,.slice aK1 ys.length cK1]) ?_ rfl HFIN
 simp [results,Tryz.results177,go_sem,r0,r1,r2,r3,r4,r5,r6,r7,r8,r9,rz]
end Go.Proofs.YtmcoomlkbgiboaaGreatDoor

/- strings.Builder's String: which blocks it leaves alone. Condition: the builder holds a byte. -/
set_option linter.all false
namespace Go.Proofs.YtmcoomlkbgiboaaGreatDoor
open Go.RowKit

theorem only_freeze (w:World) (g n:Nat):Only (fun i=>i=g) w (w.freeze ⟨g,0,none⟩ n):=by
 unfold World.freeze
 split
 ·exact Only.of_kept (Kept.refl w)
 ·exact ⟨rfl,rfl,rfl,by simp,fun k _ hs=>by
   simp only [Array.getElem?_modify]
   rw [if_neg (fun q=>hs q.symm)]⟩
set_option maxRecDepth 100000 in
set_option maxHeartbeats 3200000 in
theorem bld_str (B b:Nat) (l:Bs) (w0 w:World) (h:Lib.IsBuilder 122 5 B b (Lib.byteCells l) w0) (k:Kept w0 w) (h0:l≠[]) :
  Calls Tryz.prog 64 #[.pointer (some ⟨b,0,none⟩)] w fun e w'=>e=.returned (.string (bs l))∧Only (fun i=>B≤i∧i<w0.heap.size) w w':=by
 obtain ⟨p,hB,v,hbk,hown,hne⟩:∃ p,Lib.BuilderAt 122 5 B b p (Lib.byteCells l) w0:=by rcases h with h | h <;> exact ⟨_,h⟩
 have hl0:l.length≠0:=by simpa using h0
 have hown2:=own_kept hown k
 rw [Lib.byteCells_length] at hown2 hown
 have hblt:b<w0.heap.size:=by
  rcases Nat.lt_or_ge b w0.heap.size with q | q
  ·exact q
  ·rw [Array.getElem?_eq_none q] at hbk; cases hbk
 have hbk2:w.heap[b]? = some (.cells #[p,v] 122 (0,0)):=by rw [k.block b hblt]; exact hbk
 obtain ⟨g,cap,cur,hv,hbg,hg,hnc,hcm,hcs,htake⟩:∃ g cap cur,v=.slice (some ⟨g,0,none⟩) l.length cap∧B≤g∧w.heap[g]? = some (.cells cur 5 (0,0))∧l.length≤cap∧cap≤maxLen∧cur.size=cap * 1∧cur.toList.take (l.length * 1)=Lib.byteCells l:=by
  rcases hown2.2 with ⟨_,hz⟩ | ⟨g,cap,cur,hv,r⟩
  ·exact absurd hz hl0
  ·exact ⟨g,cap,cur,hv,r⟩
 subst hv
 have hglt:g<w0.heap.size:=(hown.lt g rfl).2
 have c1:w.drew.cell? ⟨b,1,none⟩=some (.slice (some ⟨g,0,none⟩) l.length cap):=by
  have h:w.drew.heap[b]? = some (.cells #[p,.slice (some ⟨g,0,none⟩) l.length cap] 122 (0,0)):=hbk2
  rw [Lib.cell_of_heap h]; rfl
 have hSD:(Builtin.unsafeSliceData_ #[120] 173 #[.slice (some ⟨g,0,none⟩) l.length cap]).run Tryz.prog w.drew=.ok (.pointer (some ⟨g,0,none⟩)) w.drew:=Lib.run_unsafeSliceData_row _ _ _ _ _ _ (by omega)
 have hUS:(Builtin.unsafeString_ #[173,3] 9 #[.pointer (some ⟨g,0,none⟩),.int .i64 l.length]).run Tryz.prog w.drew=.ok (.string (bs l)) (w.drew.freeze ⟨g,0,none⟩ l.length):=by
  refine Lib.run_unsafeString_row w.drew 173 3 9 5 Tryz.underlying173 (by kernel_rfl) g cur.size (by have hg':w.drew.heap[g]? = some (.cells cur 5 (0,0)):=hg; simp [World.shape?,hg']) l h0 (by omega) (by unfold maxLen at hcm; omega) ?_
  intro j x hx
  exact hown2.cells (g:=g) rfl j (.int .u8 x.toNat) (by simp [Lib.byteCells,hx])
 have hbz:b<w.drew.heap.size:=Nat.lt_of_lt_of_le hblt k.size
 have HFIN:Hid (Only (fun i=>B≤i∧i<w0.heap.size) w (w.drew.freeze ⟨g,0,none⟩ l.length)):=(Only.of_kept (kept_drewN w 1)).trans ((only_freeze w.drew g l.length).mono (fun i _ q=>by rw [q]; exact ⟨hbg,hglt⟩))
 clear hown hown2 hbk hbk2 hg htake hne h k
 go_enter Tryz.func64,Tryz.ntmps64
 go_wp2_with fail
 go_region
 all_goals (go_wp2_with fail; go_ret; exact ⟨rfl,HFIN.out⟩)
end Go.Proofs.YtmcoomlkbgiboaaGreatDoor
