/- tree.Merge: inlines whose neighbouring texts are one; what they are is not said. Conditions: lengths. -/
import Derived.Test.YtmcoomlkbgiboaaGreatDoorK36
import Derived.Test.YtmcoomlkbgiboaaGreatDoorK03
import Derived.Test.YtmcoomlkbgiboaaGreatDoorK35
import Derived.Test.YtmcoomlkbgiboaaGreatDoorK08

set_option linter.all false
namespace Go.Proofs.YtmcoomlkbgiboaaGreatDoor
open Go.RowKit

theorem Tryz.infoIn4:(Tryz.prog.info? 71).map (fun i=>(i.zero,i.size,i.bytes))=some (some (.agg #[.int .i64 0,.string ⟨#[]⟩,.string ⟨#[]⟩,.string ⟨#[]⟩,.string ⟨#[]⟩,.slice none 0 0,.slice none 0 0,.slice none 0 0,.slice none 0 0,.slice none 0 0]),10,192):=by kernel_rfl
end Go.Proofs.YtmcoomlkbgiboaaGreatDoor

/- tree.Merge: inlines whose neighbouring texts are one; the plain text stays. Conditions: lengths. -/
set_option linter.all false
namespace Go.Proofs.YtmcoomlkbgiboaaGreatDoor
open Go.RowKit

theorem plain_same {kind:Int} {text dest title id:Bs} {cls:List Bs} {prs:List Pr} {args:List Bs} {cits:List Cit} {kids zs:List Inl} (h:plainL zs=plainL kids):plainL [.mk kind text dest title id cls prs args cits zs]=plain1 (.mk kind text dest title id cls prs args cits kids):=by
 show plain1 _ ++ plainL []=_
 rw [show plainL []=[] from rfl,List.append_nil,plain1_eq,plain1_eq]
 simp only [Inl.kind,Inl.text,Inl.dest,Inl.kids,h]
 rfl
theorem plain_text {kind:Int} {text dest title id:Bs} {cls:List Bs} {prs:List Pr} {args:List Bs} {cits:List Cit} {kids:List Inl} (h:kind=1):plainL [.mk kind text dest title id cls prs args cits kids]=text:=by
 show plain1 _ ++ plainL []=_
 rw [show plainL []=[] from rfl,List.append_nil]
 exact (plain1_eq _).trans (if_pos (.inl h))
set_option maxRecDepth 100000 in
set_option maxHeartbeats 12800000 in
theorem merge_pl {S:Nat→Prop}:∀ (n:Nat) (xs:List Inl) (v:Value) (w:World),Lns S n w v xs→xs.length≤1000000→okIL xs→Calls Tryz.prog 129 #[v] w (MgQ n xs.length (plainL xs) w):=by
 intro n
 induction n with
 | zero =>
  intro xs v w hv hl hok
  obtain rfl:=hv.no
  obtain ⟨a,c,rfl,hc⟩:=hv.form
  have HFIN:MgQ 0 ([]:List Inl).length (plainL []) w (.returned (.slice none 0 0)) w:=⟨_,[],rfl,Lns.none_ _ _ _,Nat.le_refl _,rfl,Kept.refl w⟩
  generalize hP:MgQ 0 ([]:List Inl).length (plainL []) w=P at *
  clear hv hok hP
  go_enter Tryz.func129,Tryz.ntmps129
  go_wp2_with fail
  go_loopw [3,4] (fun o i wr=>o=.slice none 0 0∧i=.int .i64 0∧w=wr) (fun _ _ _=>1)
  case atStart=>exact ⟨rfl,rfl,rfl⟩
  case round =>
   obtain ⟨rfl,rfl,rfl⟩:=hrel
   go_wp2_with fail
   (try go_ret)
   exact HFIN
 | succ n ih =>
  intro xs v w hv hl hok
  have HMI:=Lib.hid (minl_pl (S:=S) n ih)
  unfold MiQ at HMI
  have HV:=Lib.hid hv
  have HOK:=Lib.hid hok
  have HFIN:Hid (∀ v ys w',OutG (InlK n) 10 (fun g=>w.heap.size≤g) w.heap.size 71 w' v ys→ys.length≤xs.length→plainL ys=plainL xs→Kept w w'→MgQ (n+1) xs.length (plainL xs) w (.returned v) w'):=fun v ys w' h1 h2 hp h3=>⟨v,ys,rfl,OutG.row (S:=fun g=>w.heap.size≤g) (inlK n) h1 (fun g _ h=>h) (fun g h=>h),h2,hp,h3⟩
  obtain ⟨i0,hi,hz0,hz1,hz2⟩:=info_parts Tryz.infoIn4
  obtain ⟨a,c,rfl,hc⟩:=hv.form
  generalize hP:MgQ (n+1) xs.length (plainL xs) w=P at *
  clear hP hv hok ih
  go_enter Tryz.func129,Tryz.ntmps129
  go_wp2_with fail
  go_loopw [3,4] (fun o i wr=>∃ (k:Nat) (ys:List Inl),k≤xs.length∧i=.int .i64 k∧ys.length≤k∧Hid (plainL ys=plainL (xs.take k))∧Hid (OutG (InlK n) 10 (fun g=>w.heap.size≤g) w.heap.size 71 wr o ys)∧Hid (Kept w wr)) (fun _ i _=>xs.length - (intOf i).toNat)
  case atStart=>exact ⟨0,[],Nat.zero_le _,rfl,Nat.le_refl _,(by show plainL []=plainL (xs.take 0); rfl),OutG.nil _ _ _ _ _ _,Kept.refl w⟩
  case round =>
   obtain ⟨k,ys,hk,rfl,hyl,HPY,HGR,HKR⟩:=hrel
   obtain ⟨ar,cr,rfl,hcr,hmr⟩:=HGR.out.form
   by_cases hlt:k<xs.length
   ·obtain ⟨x,hx⟩:∃ x,xs[k]? = some x:=⟨_,List.getElem?_eq_getElem hlt⟩
    have HTK:=Lib.hid (plainL_take hx)
    have hfit:=(okIL_at HOK.out x (List.mem_of_getElem? hx)).fit
    by_cases hk1:x.kind=1
    ·have HXK:=Lib.hid hx
     obtain ⟨g,o,vC,vP,vA,vT,vK,rfl,hgg,hgS,-,-,⟨d0,-,-,-,-,-,-,-,-,-⟩,-,-⟩:=Lns.at_ (HV.out.kept HKR.out) k x hx
     rw [hk1] at d0
     clear hx hfit
     have HB0:Hid (Lib.IsBuilder 122 5 wr.heap.size wr.heap.size (Lib.byteCells []) (wr.alloc (.cells #[.pointer none,.slice none 0 0] 122))):=by
      show Lib.IsBuilder _ _ _ _ _ _
      refine .inl ⟨Nat.le_refl _,.slice none 0 0,?_,World.ownsRow_nil _ _ _ _,by simp [Value.ownBlock]⟩
      exact heap_alloc_new wr _
     have HKW:=Lib.hid HKR.out
     have HGW:=Lib.hid HGR.out
     have HK0:=Lib.hid (kept_alloc wr (.cells #[.pointer none,.slice none 0 0] 122))
     have hrz:w.heap.size≤wr.heap.size:=HKR.out.size
     obtain ⟨wB,rfl⟩:∃ wo:World,wo=wr:=⟨_,rfl⟩
     clear HKR HGR
     go_wp2_with fail
     clear d0
     go_loopw [4,5] (fun i f wr=>∃ (k2:Nat) (T:Bs),k≤k2∧k2≤xs.length∧i=.int .i64 k2∧((f=.int .i64 (-1)∧Hid (T=[]))∨∃ j:Nat,j<k2∧f=.int .i64 j∧T≠[]∧Hid (∃ z,xs[j]? = some z∧z.kind=1))∧T.length≤1000000 * k2∧Hid (plainL (xs.take k2)=plainL (xs.take k) ++ T)∧Hid (Lib.IsBuilder 122 5 wB.heap.size wB.heap.size (Lib.byteCells T) wr)∧Hid (Kept wB wr)) (fun i _ _=>xs.length - (intOf i).toNat)
     case atStart=>exact ⟨k,[],Nat.le_refl _,hk,rfl,.inl ⟨rfl,rfl⟩,by simp,(by show _=_ ++ []; rw [List.append_nil]),HB0.out,HK0.out⟩
     case round =>
      obtain ⟨k2,T,hkk,hk2,rfl,hf,hTl,HPT,HB,HKT⟩:=hrel
      by_cases hlt2:k2<xs.length
      ·obtain ⟨x,hx⟩:∃ x,xs[k2]? = some x:=⟨_,List.getElem?_eq_getElem hlt2⟩
       have hfit:=(okIL_at HOK.out x (List.mem_of_getElem? hx)).fit
       obtain ⟨g',o',vC,vP,vA,vT,vK,he,hgg',-,-,-,⟨d0,d1,-,-,-,-,-,-,-,-⟩,-,-⟩:=Lns.at_ (HV.out.kept (HKW.out.trans HKT.out)) k2 x hx
       cases he
       obtain ⟨kind,text,dest,title,id,cls,prs,args,cits,kids⟩:=x
       simp only [Inl.kind,Inl.text] at d0 d1 hfit
       obtain ⟨⟨f1,-⟩,-⟩:=hfit
       have HST:=Lib.hid (fun w h h2=>bld_string wB.heap.size wB.heap.size (Lib.byteCells T) text w h (by rw [Lib.byteCells_length]; omega) h2)
       have HBS:Hid (wB.heap.size≤wr.heap.size):=HKT.out.size
       by_cases hkd:kind=1
       ·subst hkd
        have HZ2:Hid (∃ z,xs[k2]? = some z∧z.kind=1):=⟨_,hx,rfl⟩
        have HTK2:Hid (plainL (xs.take (k2+1))=plainL (xs.take k2) ++ text):=by
         have h:=plainL_take hx
         rw [show plain1 (Inl.mk 1 text dest title id cls prs args cits kids)=text from by rw [plain1_eq]; exact if_pos (.inl rfl)] at h
         exact h
        rcases hf with ⟨rfl,HT0⟩ | ⟨j,hj,rfl,hTn,HKJ⟩
        ·by_cases ht:text=[]
         ·subst ht
          go_wp2_with fail
          refine (HST.out _ HB.out HBS.out).mono ?_
          rintro e w5 ⟨rfl,hb5,hbe5⟩
          have HB5:Hid (Lib.IsBuilder 122 5 wB.heap.size wB.heap.size (Lib.byteCells (T ++ ([]:Bs))) w5):=by
           refine .inr ?_
           show Lib.BuilderAt _ _ _ _ _ _ _
           rw [byteC_app]; exact hb5
          have HK5:=Lib.hid (HKT.out.trans' hbe5)
          clear hb5 hbe5 HB HKT HBS HST d0 d1 hx
          go_wp2_with fail
          go_roundw
          case rel=>exact ⟨k2+1,T ++ ([]:Bs),by omega,by omega,by go_num,.inl ⟨rfl,(by show T ++ []=[]; rw [HT0.out]; rfl)⟩,(by rw [List.length_append]; omega),(by show _=_; rw [HTK2.out,HPT.out,List.append_assoc]),HB5.out,HK5.out⟩
          case measure=>simp [intOf]; omega
         ·have htb:text.isEmpty=false:=by rw [List.isEmpty_eq_false_iff]; exact ht
          go_wp2_with fail
          refine (HST.out _ HB.out HBS.out).mono ?_
          rintro e w5 ⟨rfl,hb5,hbe5⟩
          have HB5:Hid (Lib.IsBuilder 122 5 wB.heap.size wB.heap.size (Lib.byteCells (T ++ text)) w5):=by
           refine .inr ?_
           show Lib.BuilderAt _ _ _ _ _ _ _
           rw [byteC_app]; exact hb5
          have HK5:=Lib.hid (HKT.out.trans' hbe5)
          clear hb5 hbe5 HB HKT HBS HST d0 d1 hx
          go_wp2_with fail
          go_roundw
          case rel=>exact ⟨k2+1,T ++ text,by omega,by omega,by go_num,.inr ⟨k2,by omega,rfl,(fun q=>ht (List.append_eq_nil_iff.1 q).2),HZ2.out⟩,(by rw [List.length_append]; omega),(by show _=_; rw [HTK2.out,HPT.out,List.append_assoc]),HB5.out,HK5.out⟩
          case measure=>simp [intOf]; omega
        ·go_wp2_with fail
         refine (HST.out _ HB.out HBS.out).mono ?_
         rintro e w5 ⟨rfl,hb5,hbe5⟩
         have HB5:Hid (Lib.IsBuilder 122 5 wB.heap.size wB.heap.size (Lib.byteCells (T ++ text)) w5):=by
          refine .inr ?_
          show Lib.BuilderAt _ _ _ _ _ _ _
          rw [byteC_app]; exact hb5
         have HK5:=Lib.hid (HKT.out.trans' hbe5)
         clear hb5 hbe5 HB HKT HBS HST d0 d1 hx
         go_wp2_with fail
         go_roundw
         case rel=>exact ⟨k2+1,T ++ text,by omega,by omega,by go_num,.inr ⟨j,by omega,rfl,(fun q=>hTn (List.append_eq_nil_iff.1 q).1),HKJ.out⟩,(by rw [List.length_append]; omega),(by show _=_; rw [HTK2.out,HPT.out,List.append_assoc]),HB5.out,HK5.out⟩
         case measure=>simp [intOf]; omega
       ·have HXN:Hid (k<k2):=by
         rcases Nat.lt_or_ge k k2 with q | q
         ·exact q
         ·have:k=k2:=by omega
          subst this
          have h:=HXK.out
          rw [hx] at h; cases h
          exact absurd hk1 hkd
        have hkl:=HXN.out
        rcases hf with ⟨rfl,HT0⟩ | ⟨j,hj,rfl,hTn,HKJ⟩
        ·have HGX:=Lib.hid (HGW.out.kept (inlK n) HKT.out)
         have HKX:=Lib.hid (HKW.out.trans HKT.out)
         clear HB HKT
         go_wp2_with fail
         go_roundw
         case rel=>exact ⟨k2,ys,hk2,by go_num,by omega,(by show _=_; rw [HPT.out,HT0.out,List.append_nil]; exact HPY.out),HGX.out,HKX.out⟩
         case measure=>simp [intOf]; omega
        ·have e0:=d0
         clear d0 d1 hx
         obtain ⟨x,hx⟩:∃ x,xs[j]? = some x:=⟨_,List.getElem?_eq_getElem (by omega)⟩
         have HK1:Hid (x.kind=1):=by
          obtain ⟨z,h1,h2⟩:=HKJ.out
          rw [hx] at h1; cases h1; exact h2
         have hfit:=(okIL_at HOK.out x (List.mem_of_getElem? hx)).fit
         obtain ⟨g',o',vC,vP,vA,vT,vK,he,hgg',-,-,-,⟨d0,d1,d2,d3,d4,d5,d6,d7,d8,d9⟩,-,⟨hC,iC⟩,⟨hPP,iP⟩,⟨hA,iA⟩,hTT,hK⟩:=Lns.at_ (HV.out.kept (HKW.out.trans HKT.out)) j x hx
         cases he
         obtain ⟨kind,text,dest,title,id,cls,prs,args,cits,kids⟩:=x
         simp only [Inl.kind,Inl.text,Inl.dest,Inl.title,Inl.id,Inl.cls,Inl.prs,Inl.args,Inl.cits,Inl.kids] at d0 d1 d2 d3 d4 hC hPP hA hTT hK hfit
         obtain ⟨⟨f1,f2,f3,f4,f5,f6,f7,f8,f9⟩,f10⟩:=hfit
         obtain ⟨aC,cC,rfl,lC⟩:=hC.shape
         obtain ⟨aP,cP,rfl,lP⟩:=hPP.shape
         obtain ⟨aA,cA,rfl,lA⟩:=hA.shape
         obtain ⟨aT,cT,rfl,lT⟩:=hTT.form
         obtain ⟨aK,cK,rfl,lK⟩:=hK.form
         have HMX:=Lib.hid (HMI.out kind text dest title id cls prs args cits kids _ _ _ _ _ wr hC hPP hA hTT hK (by omega) (by omega) (by omega) (by omega) (by omega) f10)
         clear iC iP iA hC hPP hA hTT hK f10 hx
         go_wp2_with fail
         refine HMX.out.mono ?_
         rintro e w4 ⟨cs,zs,rfl,hI,hpz,hk4⟩; have HPZ:=Lib.hid hpz; clear hpz
         obtain ⟨vC1,vP1,vA1,vT1,vK1,rfl,⟨hc1,ic1⟩,⟨hp1,ip1⟩,⟨ha1,ia1⟩,ht1,hl1⟩:=hI
         simp only [Inl.cls,Inl.prs,Inl.args,Inl.cits,Inl.kids,Inl.kind,Inl.text,Inl.dest,Inl.title,Inl.id] at hc1 ic1 hp1 ip1 ha1 ia1 ht1 hl1
         obtain ⟨aC1,cC1,rfl,lC1⟩:=hc1.shape
         obtain ⟨aP1,cP1,rfl,lP1⟩:=hp1.shape
         obtain ⟨aA1,cA1,rfl,lA1⟩:=ha1.shape
         obtain ⟨aT1,cT1,rfl,lT1⟩:=ht1.form
         obtain ⟨aK1,cK1,rfl,lK1⟩:=hl1.form
         dsimp only [inlC,Inl.kind,Inl.text,Inl.dest,Inl.title,Inl.id]
         have hwr:wB.heap.size≤wr.heap.size:=HKT.out.size
         have hJ0:=Blk.new w4 71 #[.int .i64 kind,.string (bs text),.string (bs dest),.string (bs title),.string (bs id),.slice aC1 cls.length cC1,.slice aP1 prs.length cP1,.slice aA1 args.length cA1,.slice aT1 cits.length cT1,.slice aK1 zs.length cK1]
         have hkJ:=kept_alloc w4 (.cells #[.int .i64 kind,.string (bs text),.string (bs dest),.string (bs title),.string (bs id),.slice aC1 cls.length cC1,.slice aP1 prs.length cP1,.slice aA1 args.length cA1,.slice aT1 cits.length cT1,.slice aK1 zs.length cK1] 71)
         obtain ⟨J,HJE⟩:∃ J,Hid (w4.heap.size=J):=⟨_,rfl⟩
         have hrJ:wr.heap.size≤J:=by have h1:=hk4.size; have h2:=HJE.out; omega
         have HST:=Lib.hid (bld_str wB.heap.size wB.heap.size T wr (w4.alloc (.cells #[.int .i64 kind,.string (bs text),.string (bs dest),.string (bs title),.string (bs id),.slice aC1 cls.length cC1,.slice aP1 prs.length cP1,.slice aA1 args.length cA1,.slice aT1 cits.length cT1,.slice aK1 zs.length cK1] 71)) HB.out (hk4.trans hkJ) hTn)
         have HKJ:=Lib.hid ((HKT.out.trans hk4).trans hkJ)
         have HC4:=Lib.hid (hc1.kept hkJ)
         have HP4:=Lib.hid (hp1.kept hkJ)
         have HA4:=Lib.hid (ha1.kept hkJ)
         have HT4:=Lib.hid (ht1.sam (S':=fun g=>wr.heap.size≤g∧g≠J) (Sam.kept hkJ) (fun g q r=>⟨r,fun e=>by have:=HJE.out; omega⟩))
         have HL4:=Lib.hid (hl1.sam (S':=fun g=>wr.heap.size≤g∧g≠J) (Sam.kept hkJ) (fun g q r=>⟨r,fun e=>by have:=HJE.out; omega⟩))
         have HIC:=Lib.hid ic1
         have HIP:=Lib.hid ip1
         have HIA:=Lib.hid ia1
         have HIC4:Hid (InB (fun g=>wr.heap.size≤g∧g≠J) (.slice aC1 cls.length cC1) cls.length):=fun q g hg=>⟨ic1 q g hg,fun e=>by have h1:=hc1.ltB q g hg; have h2:=HJE.out; omega⟩
         have HIP4:Hid (InB (fun g=>wr.heap.size≤g∧g≠J) (.slice aP1 prs.length cP1) prs.length):=fun q g hg=>⟨ip1 q g hg,fun e=>by have h1:=hp1.ltB q g hg; have h2:=HJE.out; omega⟩
         have HIA4:Hid (InB (fun g=>wr.heap.size≤g∧g≠J) (.slice aA1 args.length cA1) args.length):=fun q g hg=>⟨ia1 q g hg,fun e=>by have h1:=ha1.ltB q g hg; have h2:=HJE.out; omega⟩
         have HJ0:=Lib.hid hJ0
         clear hJ0 hkJ hc1 hp1 ha1 ht1 hl1 ic1 ip1 ia1 hk4 HB HMX d0 d1 d2 d3 d4 d5 d6 d7 d8 d9
         go_wp2_with fail
         rw [HJE.out] at HJ0 ⊢
         generalize w4.alloc _=w4a at *
         have hJz:=HJ0.out.lt
         refine HST.out.mono ?_
         rintro e w5 ⟨rfl,ho5⟩
         have hJ5:=HJ0.out.onl ho5 (fun q=>by omega)
         have y1:w5.cell? ⟨J,1,none⟩=some (.string (bs text)):=hJ5.cell 1 _ rfl
         have y2:=hJ5.free 1
         have y3:=hJ5.lt
         have ho9:=Only.setCell (w:=w5) J 1 (.string (bs T))
         have HJ9:Hid (Blk (w5.setCell ⟨J,1,none⟩ (.string (bs T))) J 71 #[.int .i64 kind,.string (bs T),.string (bs dest),.string (bs title),.string (bs id),.slice aC1 cls.length cC1,.slice aP1 prs.length cP1,.slice aA1 args.length cA1,.slice aT1 cits.length cT1,.slice aK1 zs.length cK1]):=hJ5.set 1 _
         have HKB:Hid (Kept wB (w5.setCell ⟨J,1,none⟩ (.string (bs T)))):=(HKJ.out.trans' (ho5.below HKJ.out.size (fun i q=>q.1))).trans' (ho9.below (HKJ.out.trans' (ho5.below HKJ.out.size (fun i q=>q.1))).size (fun i q=>by omega))
         have HK9:=Lib.hid (HKW.out.trans HKB.out)
         have HG9:=Lib.hid (HGW.out.kept (inlK n) HKB.out)
         have hin:∀ g,wr.heap.size≤g→w.heap.size≤g∧(Value.slice ar ys.length cr).ownBlock≠some g:=fun g hg=>⟨by omega,fun q=>by have:=(HGW.out.blk g q).2; omega⟩
         have hne:∀ g,wr.heap.size≤g→¬ (wB.heap.size≤g∧g<wr.heap.size):=fun g q r=>by omega
         have HIC9:Hid (InB (fun g=>wr.heap.size≤g∧g≠J) (.slice aC1 cls.length cC1) cls.length):=HIC4.out
         have HIP9:Hid (InB (fun g=>wr.heap.size≤g∧g≠J) (.slice aP1 prs.length cP1) prs.length):=HIP4.out
         have HIA9:Hid (InB (fun g=>wr.heap.size≤g∧g≠J) (.slice aA1 args.length cA1) args.length):=HIA4.out
         have HT9:Hid (Cits (fun g=>wr.heap.size≤g) (w5.setCell ⟨J,1,none⟩ (.string (bs T))) (.slice aT1 cits.length cT1) cits):=((HT4.out.sam (S':=fun g=>wr.heap.size≤g∧g≠J) (Sam.only ho5 (fun g _ hs q=>hne g hs.1 q)) (fun _ _ q=>q)).sam (S':=fun g=>wr.heap.size≤g∧g≠J) (Sam.only ho9 (fun g _ hs q=>hs.2 q)) (fun _ _ q=>q)).sam (fun _ _ _=>rfl) (fun _ _ q=>q.1)
         have HL9:Hid (Lns (fun g=>wr.heap.size≤g) n (w5.setCell ⟨J,1,none⟩ (.string (bs T))) (.slice aK1 zs.length cK1) zs):=((HL4.out.sam (S':=fun g=>wr.heap.size≤g∧g≠J) (Sam.only ho5 (fun g _ hs q=>hne g hs.1 q)) (fun _ _ q=>q)).sam (S':=fun g=>wr.heap.size≤g∧g≠J) (Sam.only ho9 (fun g _ hs q=>hs.2 q)) (fun _ _ q=>q)).mono (fun _ _ q=>q.1)
         have HYY:Hid (InlK n (fun g=>w.heap.size≤g∧(Value.slice ar ys.length cr).ownBlock≠some g) (w5.setCell ⟨J,1,none⟩ (.string (bs T))) [.int .i64 kind,.string (bs T),.string (bs dest),.string (bs title),.string (bs id),.slice aC1 cls.length cC1,.slice aP1 prs.length cP1,.slice aA1 args.length cA1,.slice aT1 cits.length cT1,.slice aK1 zs.length cK1] (Inl.mk kind T dest title id cls prs args cits zs)) :=
          ⟨_,_,_,_,_,rfl,⟨(HC4.out.onlS HIC.out ho5 (fun g _ hs q=>hne g hs q)).onlS (HIC9).out ho9 (fun g _ hs q=>hs.2 q),HIC.out.mono (fun g _ _ q=>hin g q)⟩,⟨(HP4.out.onlS HIP.out ho5 (fun g _ hs q=>hne g hs q)).onlS HIP9.out ho9 (fun g _ hs q=>hs.2 q),HIP.out.mono (fun g _ _ q=>hin g q)⟩,⟨(HA4.out.onlS HIA.out ho5 (fun g _ hs q=>hne g hs q)).onlS HIA9.out ho9 (fun g _ hs q=>hs.2 q),HIA.out.mono (fun g _ _ q=>hin g q)⟩,HT9.out.sam (fun _ _ _=>rfl) (fun g _ q=>hin g q),HL9.out.sam (fun _ _ _=>rfl) (fun g _ q=>hin g q)⟩
         have jc0:(w5.setCell ⟨J,1,none⟩ (.string (bs T))).cell? ⟨J,0,none⟩=some (.int .i64 kind):=HJ9.out.cell 0 _ rfl
         have jc1:(w5.setCell ⟨J,1,none⟩ (.string (bs T))).cell? ⟨J,1,none⟩=some (.string (bs T)):=HJ9.out.cell 1 _ rfl
         have jc2:(w5.setCell ⟨J,1,none⟩ (.string (bs T))).cell? ⟨J,2,none⟩=some (.string (bs dest)):=HJ9.out.cell 2 _ rfl
         have jc3:(w5.setCell ⟨J,1,none⟩ (.string (bs T))).cell? ⟨J,3,none⟩=some (.string (bs title)):=HJ9.out.cell 3 _ rfl
         have jc4:(w5.setCell ⟨J,1,none⟩ (.string (bs T))).cell? ⟨J,4,none⟩=some (.string (bs id)):=HJ9.out.cell 4 _ rfl
         have jc5:(w5.setCell ⟨J,1,none⟩ (.string (bs T))).cell? ⟨J,5,none⟩=some (.slice aC1 cls.length cC1):=HJ9.out.cell 5 _ rfl
         have jc6:(w5.setCell ⟨J,1,none⟩ (.string (bs T))).cell? ⟨J,6,none⟩=some (.slice aP1 prs.length cP1):=HJ9.out.cell 6 _ rfl
         have jc7:(w5.setCell ⟨J,1,none⟩ (.string (bs T))).cell? ⟨J,7,none⟩=some (.slice aA1 args.length cA1):=HJ9.out.cell 7 _ rfl
         have jc8:(w5.setCell ⟨J,1,none⟩ (.string (bs T))).cell? ⟨J,8,none⟩=some (.slice aT1 cits.length cT1):=HJ9.out.cell 8 _ rfl
         have jc9:(w5.setCell ⟨J,1,none⟩ (.string (bs T))).cell? ⟨J,9,none⟩=some (.slice aK1 zs.length cK1):=HJ9.out.cell 9 _ rfl
         clear ho5 ho9 hJ5 HKB HKJ HC4 HP4 HA4 HT4 HL4 HT9 HL9 HIC9 HIP9 HIA9 HIC HIP HIA HJ0 HST hin hne
         have hka:=kept_alloc (w5.setCell ⟨J,1,none⟩ (.string (bs T))) (.cells #[.int .i64 kind,.string (bs T),.string (bs dest),.string (bs title),.string (bs id),.slice aC1 cls.length cC1,.slice aP1 prs.length cP1,.slice aA1 args.length cA1,.slice aT1 cits.length cT1,.slice aK1 zs.length cK1] 71)
         have HG2:=Lib.hid (HG9.out.kept (inlK n) hka)
         have HROW:=Lib.hid (Blk.new (w5.setCell ⟨J,1,none⟩ (.string (bs T))) 71 #[.int .i64 kind,.string (bs T),.string (bs dest),.string (bs title),.string (bs id),.slice aC1 cls.length cC1,.slice aP1 prs.length cP1,.slice aA1 args.length cA1,.slice aT1 cits.length cT1,.slice aK1 zs.length cK1])
         (try rw [size_setCell] at HROW)
         have HYZ:=Lib.hid ((inlK n).sam HYY.out (Sam.kept hka) (fun _ _ q=>q))
         have HKA:=Lib.hid (HK9.out.trans hka)
         have hbz:w.heap.size≤((w5.setCell ⟨J,1,none⟩ (.string (bs T))).alloc (.cells #[.int .i64 kind,.string (bs T),.string (bs dest),.string (bs title),.string (bs id),.slice aC1 cls.length cC1,.slice aP1 prs.length cP1,.slice aA1 args.length cA1,.slice aT1 cits.length cT1,.slice aK1 zs.length cK1] 71)).heap.size:=HKA.out.size
         clear hka
         go_wp2_with (at_builtin; refine holdQ ?_)
         refine Lib.hid ?_
         refine wpList_append_out (inlK n) rfl (.tmp 68) (.tmp 70) 57 rfl i0 _ 192 Tryz.underlying57 hi hz0 hz1 hz2 rfl (by omega) (by rfl) HG2.out w5.heap.size _ (Inl.mk kind T dest title id cls prs args cits zs) (by rfl) (fun j u hu=>HROW.out.cell j u (by rw [← Array.getElem?_toList]; exact hu)) rfl HYZ.out (by unfold maxLen; omega) (by omega) hbz _ rfl ?_
         intro g7 c7' w17 hout7 hgrow7 hat7 hlt7
         have HO7:=Lib.hid hout7
         have HK17:Hid (Kept w w17):=HKA.out.trans' ((Only.grown hgrow7).below HKA.out.size (fun i q=>(HG2.out.blk i q.symm).1))
         clear hout7 hgrow7 hat7 hlt7 HG2 HROW HYZ HKA HYY hbz
         go_wp2_with fail
         go_roundw
         case rel=>exact ⟨k2,ys ++ [Inl.mk kind T dest title id cls prs args cits zs],by omega,by go_num,(by rw [List.length_append]; simp; omega),(by show plainL (ys ++ [_])=_; rw [plainL_app,HPY.out,HPT.out]; congr 1; exact plain_text HK1.out),HO7.out,HK17.out⟩
         case measure=>simp [intOf]; omega
      ·have hkl:k<k2:=by omega
       rcases hf with ⟨rfl,HT0⟩ | ⟨j,hj,rfl,hTn,HKJ⟩
       ·have HGX:=Lib.hid (HGW.out.kept (inlK n) HKT.out)
        have HKX:=Lib.hid (HKW.out.trans HKT.out)
        clear HB HKT
        go_wp2_with fail
        go_roundw
        case rel=>exact ⟨k2,ys,hk2,by go_num,by omega,(by show _=_; rw [HPT.out,HT0.out,List.append_nil]; exact HPY.out),HGX.out,HKX.out⟩
        case measure=>simp [intOf]; omega
       ·skip
        obtain ⟨x,hx⟩:∃ x,xs[j]? = some x:=⟨_,List.getElem?_eq_getElem (by omega)⟩
        have HK1:Hid (x.kind=1):=by
         obtain ⟨z,h1,h2⟩:=HKJ.out
         rw [hx] at h1; cases h1; exact h2
        have hfit:=(okIL_at HOK.out x (List.mem_of_getElem? hx)).fit
        obtain ⟨g',o',vC,vP,vA,vT,vK,he,hgg',-,-,-,⟨d0,d1,d2,d3,d4,d5,d6,d7,d8,d9⟩,-,⟨hC,iC⟩,⟨hPP,iP⟩,⟨hA,iA⟩,hTT,hK⟩:=Lns.at_ (HV.out.kept (HKW.out.trans HKT.out)) j x hx
        cases he
        obtain ⟨kind,text,dest,title,id,cls,prs,args,cits,kids⟩:=x
        simp only [Inl.kind,Inl.text,Inl.dest,Inl.title,Inl.id,Inl.cls,Inl.prs,Inl.args,Inl.cits,Inl.kids] at d0 d1 d2 d3 d4 hC hPP hA hTT hK hfit
        obtain ⟨⟨f1,f2,f3,f4,f5,f6,f7,f8,f9⟩,f10⟩:=hfit
        obtain ⟨aC,cC,rfl,lC⟩:=hC.shape
        obtain ⟨aP,cP,rfl,lP⟩:=hPP.shape
        obtain ⟨aA,cA,rfl,lA⟩:=hA.shape
        obtain ⟨aT,cT,rfl,lT⟩:=hTT.form
        obtain ⟨aK,cK,rfl,lK⟩:=hK.form
        have HMX:=Lib.hid (HMI.out kind text dest title id cls prs args cits kids _ _ _ _ _ wr hC hPP hA hTT hK (by omega) (by omega) (by omega) (by omega) (by omega) f10)
        clear iC iP iA hC hPP hA hTT hK f10 hx
        go_wp2_with fail
        refine HMX.out.mono ?_
        rintro e w4 ⟨cs,zs,rfl,hI,hpz,hk4⟩; have HPZ:=Lib.hid hpz; clear hpz
        obtain ⟨vC1,vP1,vA1,vT1,vK1,rfl,⟨hc1,ic1⟩,⟨hp1,ip1⟩,⟨ha1,ia1⟩,ht1,hl1⟩:=hI
        simp only [Inl.cls,Inl.prs,Inl.args,Inl.cits,Inl.kids,Inl.kind,Inl.text,Inl.dest,Inl.title,Inl.id] at hc1 ic1 hp1 ip1 ha1 ia1 ht1 hl1
        obtain ⟨aC1,cC1,rfl,lC1⟩:=hc1.shape
        obtain ⟨aP1,cP1,rfl,lP1⟩:=hp1.shape
        obtain ⟨aA1,cA1,rfl,lA1⟩:=ha1.shape
        obtain ⟨aT1,cT1,rfl,lT1⟩:=ht1.form
        obtain ⟨aK1,cK1,rfl,lK1⟩:=hl1.form
        dsimp only [inlC,Inl.kind,Inl.text,Inl.dest,Inl.title,Inl.id]
        have hwr:wB.heap.size≤wr.heap.size:=HKT.out.size
        have hJ0:=Blk.new w4 71 #[.int .i64 kind,.string (bs text),.string (bs dest),.string (bs title),.string (bs id),.slice aC1 cls.length cC1,.slice aP1 prs.length cP1,.slice aA1 args.length cA1,.slice aT1 cits.length cT1,.slice aK1 zs.length cK1]
        have hkJ:=kept_alloc w4 (.cells #[.int .i64 kind,.string (bs text),.string (bs dest),.string (bs title),.string (bs id),.slice aC1 cls.length cC1,.slice aP1 prs.length cP1,.slice aA1 args.length cA1,.slice aT1 cits.length cT1,.slice aK1 zs.length cK1] 71)
        obtain ⟨J,HJE⟩:∃ J,Hid (w4.heap.size=J):=⟨_,rfl⟩
        have hrJ:wr.heap.size≤J:=by have h1:=hk4.size; have h2:=HJE.out; omega
        have HST:=Lib.hid (bld_str wB.heap.size wB.heap.size T wr (w4.alloc (.cells #[.int .i64 kind,.string (bs text),.string (bs dest),.string (bs title),.string (bs id),.slice aC1 cls.length cC1,.slice aP1 prs.length cP1,.slice aA1 args.length cA1,.slice aT1 cits.length cT1,.slice aK1 zs.length cK1] 71)) HB.out (hk4.trans hkJ) hTn)
        have HKJ:=Lib.hid ((HKT.out.trans hk4).trans hkJ)
        have HC4:=Lib.hid (hc1.kept hkJ)
        have HP4:=Lib.hid (hp1.kept hkJ)
        have HA4:=Lib.hid (ha1.kept hkJ)
        have HT4:=Lib.hid (ht1.sam (S':=fun g=>wr.heap.size≤g∧g≠J) (Sam.kept hkJ) (fun g q r=>⟨r,fun e=>by have:=HJE.out; omega⟩))
        have HL4:=Lib.hid (hl1.sam (S':=fun g=>wr.heap.size≤g∧g≠J) (Sam.kept hkJ) (fun g q r=>⟨r,fun e=>by have:=HJE.out; omega⟩))
        have HIC:=Lib.hid ic1
        have HIP:=Lib.hid ip1
        have HIA:=Lib.hid ia1
        have HIC4:Hid (InB (fun g=>wr.heap.size≤g∧g≠J) (.slice aC1 cls.length cC1) cls.length):=fun q g hg=>⟨ic1 q g hg,fun e=>by have h1:=hc1.ltB q g hg; have h2:=HJE.out; omega⟩
        have HIP4:Hid (InB (fun g=>wr.heap.size≤g∧g≠J) (.slice aP1 prs.length cP1) prs.length):=fun q g hg=>⟨ip1 q g hg,fun e=>by have h1:=hp1.ltB q g hg; have h2:=HJE.out; omega⟩
        have HIA4:Hid (InB (fun g=>wr.heap.size≤g∧g≠J) (.slice aA1 args.length cA1) args.length):=fun q g hg=>⟨ia1 q g hg,fun e=>by have h1:=ha1.ltB q g hg; have h2:=HJE.out; omega⟩
        have HJ0:=Lib.hid hJ0
        clear hJ0 hkJ hc1 hp1 ha1 ht1 hl1 ic1 ip1 ia1 hk4 HB HMX d0 d1 d2 d3 d4 d5 d6 d7 d8 d9
        go_wp2_with fail
        rw [HJE.out] at HJ0 ⊢
        generalize w4.alloc _=w4a at *
        have hJz:=HJ0.out.lt
        refine HST.out.mono ?_
        rintro e w5 ⟨rfl,ho5⟩
        have hJ5:=HJ0.out.onl ho5 (fun q=>by omega)
        have y1:w5.cell? ⟨J,1,none⟩=some (.string (bs text)):=hJ5.cell 1 _ rfl
        have y2:=hJ5.free 1
        have y3:=hJ5.lt
        have ho9:=Only.setCell (w:=w5) J 1 (.string (bs T))
        have HJ9:Hid (Blk (w5.setCell ⟨J,1,none⟩ (.string (bs T))) J 71 #[.int .i64 kind,.string (bs T),.string (bs dest),.string (bs title),.string (bs id),.slice aC1 cls.length cC1,.slice aP1 prs.length cP1,.slice aA1 args.length cA1,.slice aT1 cits.length cT1,.slice aK1 zs.length cK1]):=hJ5.set 1 _
        have HKB:Hid (Kept wB (w5.setCell ⟨J,1,none⟩ (.string (bs T)))):=(HKJ.out.trans' (ho5.below HKJ.out.size (fun i q=>q.1))).trans' (ho9.below (HKJ.out.trans' (ho5.below HKJ.out.size (fun i q=>q.1))).size (fun i q=>by omega))
        have HK9:=Lib.hid (HKW.out.trans HKB.out)
        have HG9:=Lib.hid (HGW.out.kept (inlK n) HKB.out)
        have hin:∀ g,wr.heap.size≤g→w.heap.size≤g∧(Value.slice ar ys.length cr).ownBlock≠some g:=fun g hg=>⟨by omega,fun q=>by have:=(HGW.out.blk g q).2; omega⟩
        have hne:∀ g,wr.heap.size≤g→¬ (wB.heap.size≤g∧g<wr.heap.size):=fun g q r=>by omega
        have HIC9:Hid (InB (fun g=>wr.heap.size≤g∧g≠J) (.slice aC1 cls.length cC1) cls.length):=HIC4.out
        have HIP9:Hid (InB (fun g=>wr.heap.size≤g∧g≠J) (.slice aP1 prs.length cP1) prs.length):=HIP4.out
        have HIA9:Hid (InB (fun g=>wr.heap.size≤g∧g≠J) (.slice aA1 args.length cA1) args.length):=HIA4.out
        have HT9:Hid (Cits (fun g=>wr.heap.size≤g) (w5.setCell ⟨J,1,none⟩ (.string (bs T))) (.slice aT1 cits.length cT1) cits):=((HT4.out.sam (S':=fun g=>wr.heap.size≤g∧g≠J) (Sam.only ho5 (fun g _ hs q=>hne g hs.1 q)) (fun _ _ q=>q)).sam (S':=fun g=>wr.heap.size≤g∧g≠J) (Sam.only ho9 (fun g _ hs q=>hs.2 q)) (fun _ _ q=>q)).sam (fun _ _ _=>rfl) (fun _ _ q=>q.1)
        have HL9:Hid (Lns (fun g=>wr.heap.size≤g) n (w5.setCell ⟨J,1,none⟩ (.string (bs T))) (.slice aK1 zs.length cK1) zs):=((HL4.out.sam (S':=fun g=>wr.heap.size≤g∧g≠J) (Sam.only ho5 (fun g _ hs q=>hne g hs.1 q)) (fun _ _ q=>q)).sam (S':=fun g=>wr.heap.size≤g∧g≠J) (Sam.only ho9 (fun g _ hs q=>hs.2 q)) (fun _ _ q=>q)).mono (fun _ _ q=>q.1)
        have HYY:Hid (InlK n (fun g=>w.heap.size≤g∧(Value.slice ar ys.length cr).ownBlock≠some g) (w5.setCell ⟨J,1,none⟩ (.string (bs T))) [.int .i64 kind,.string (bs T),.string (bs dest),.string (bs title),.string (bs id),.slice aC1 cls.length cC1,.slice aP1 prs.length cP1,.slice aA1 args.length cA1,.slice aT1 cits.length cT1,.slice aK1 zs.length cK1] (Inl.mk kind T dest title id cls prs args cits zs)) :=
         ⟨_,_,_,_,_,rfl,⟨(HC4.out.onlS HIC.out ho5 (fun g _ hs q=>hne g hs q)).onlS (HIC9).out ho9 (fun g _ hs q=>hs.2 q),HIC.out.mono (fun g _ _ q=>hin g q)⟩,⟨(HP4.out.onlS HIP.out ho5 (fun g _ hs q=>hne g hs q)).onlS HIP9.out ho9 (fun g _ hs q=>hs.2 q),HIP.out.mono (fun g _ _ q=>hin g q)⟩,⟨(HA4.out.onlS HIA.out ho5 (fun g _ hs q=>hne g hs q)).onlS HIA9.out ho9 (fun g _ hs q=>hs.2 q),HIA.out.mono (fun g _ _ q=>hin g q)⟩,HT9.out.sam (fun _ _ _=>rfl) (fun g _ q=>hin g q),HL9.out.sam (fun _ _ _=>rfl) (fun g _ q=>hin g q)⟩
        have jc0:(w5.setCell ⟨J,1,none⟩ (.string (bs T))).cell? ⟨J,0,none⟩=some (.int .i64 kind):=HJ9.out.cell 0 _ rfl
        have jc1:(w5.setCell ⟨J,1,none⟩ (.string (bs T))).cell? ⟨J,1,none⟩=some (.string (bs T)):=HJ9.out.cell 1 _ rfl
        have jc2:(w5.setCell ⟨J,1,none⟩ (.string (bs T))).cell? ⟨J,2,none⟩=some (.string (bs dest)):=HJ9.out.cell 2 _ rfl
        have jc3:(w5.setCell ⟨J,1,none⟩ (.string (bs T))).cell? ⟨J,3,none⟩=some (.string (bs title)):=HJ9.out.cell 3 _ rfl
        have jc4:(w5.setCell ⟨J,1,none⟩ (.string (bs T))).cell? ⟨J,4,none⟩=some (.string (bs id)):=HJ9.out.cell 4 _ rfl
        have jc5:(w5.setCell ⟨J,1,none⟩ (.string (bs T))).cell? ⟨J,5,none⟩=some (.slice aC1 cls.length cC1):=HJ9.out.cell 5 _ rfl
        have jc6:(w5.setCell ⟨J,1,none⟩ (.string (bs T))).cell? ⟨J,6,none⟩=some (.slice aP1 prs.length cP1):=HJ9.out.cell 6 _ rfl
        have jc7:(w5.setCell ⟨J,1,none⟩ (.string (bs T))).cell? ⟨J,7,none⟩=some (.slice aA1 args.length cA1):=HJ9.out.cell 7 _ rfl
        have jc8:(w5.setCell ⟨J,1,none⟩ (.string (bs T))).cell? ⟨J,8,none⟩=some (.slice aT1 cits.length cT1):=HJ9.out.cell 8 _ rfl
        have jc9:(w5.setCell ⟨J,1,none⟩ (.string (bs T))).cell? ⟨J,9,none⟩=some (.slice aK1 zs.length cK1):=HJ9.out.cell 9 _ rfl
        clear ho5 ho9 hJ5 HKB HKJ HC4 HP4 HA4 HT4 HL4 HT9 HL9 HIC9 HIP9 HIA9 HIC HIP HIA HJ0 HST hin hne
        have hka:=kept_alloc (w5.setCell ⟨J,1,none⟩ (.string (bs T))) (.cells #[.int .i64 kind,.string (bs T),.string (bs dest),.string (bs title),.string (bs id),.slice aC1 cls.length cC1,.slice aP1 prs.length cP1,.slice aA1 args.length cA1,.slice aT1 cits.length cT1,.slice aK1 zs.length cK1] 71)
        have HG2:=Lib.hid (HG9.out.kept (inlK n) hka)
        have HROW:=Lib.hid (Blk.new (w5.setCell ⟨J,1,none⟩ (.string (bs T))) 71 #[.int .i64 kind,.string (bs T),.string (bs dest),.string (bs title),.string (bs id),.slice aC1 cls.length cC1,.slice aP1 prs.length cP1,.slice aA1 args.length cA1,.slice aT1 cits.length cT1,.slice aK1 zs.length cK1])
        (try rw [size_setCell] at HROW)
        have HYZ:=Lib.hid ((inlK n).sam HYY.out (Sam.kept hka) (fun _ _ q=>q))
        have HKA:=Lib.hid (HK9.out.trans hka)
        have hbz:w.heap.size≤((w5.setCell ⟨J,1,none⟩ (.string (bs T))).alloc (.cells #[.int .i64 kind,.string (bs T),.string (bs dest),.string (bs title),.string (bs id),.slice aC1 cls.length cC1,.slice aP1 prs.length cP1,.slice aA1 args.length cA1,.slice aT1 cits.length cT1,.slice aK1 zs.length cK1] 71)).heap.size:=HKA.out.size
        clear hka
        go_wp2_with (at_builtin; refine holdQ ?_)
        refine Lib.hid ?_
        refine wpList_append_out (inlK n) rfl (.tmp 68) (.tmp 70) 57 rfl i0 _ 192 Tryz.underlying57 hi hz0 hz1 hz2 rfl (by omega) (by rfl) HG2.out w5.heap.size _ (Inl.mk kind T dest title id cls prs args cits zs) (by rfl) (fun j u hu=>HROW.out.cell j u (by rw [← Array.getElem?_toList]; exact hu)) rfl HYZ.out (by unfold maxLen; omega) (by omega) hbz _ rfl ?_
        intro g7 c7' w17 hout7 hgrow7 hat7 hlt7
        have HO7:=Lib.hid hout7
        have HK17:Hid (Kept w w17):=HKA.out.trans' ((Only.grown hgrow7).below HKA.out.size (fun i q=>(HG2.out.blk i q.symm).1))
        clear hout7 hgrow7 hat7 hlt7 HG2 HROW HYZ HKA HYY hbz
        go_wp2_with fail
        go_roundw
        case rel=>exact ⟨k2,ys ++ [Inl.mk kind T dest title id cls prs args cits zs],by omega,by go_num,(by rw [List.length_append]; simp; omega),(by show plainL (ys ++ [_])=_; rw [plainL_app,HPY.out,HPT.out]; congr 1; exact plain_text HK1.out),HO7.out,HK17.out⟩
        case measure=>simp [intOf]; omega
    ·have hx':=hx
     obtain ⟨g,o,vC,vP,vA,vT,vK,rfl,hgg,hgS,-,-,⟨d0,d1,d2,d3,d4,d5,d6,d7,d8,d9⟩,-,⟨hC,iC⟩,⟨hPP,iP⟩,⟨hA,iA⟩,hTT,hK⟩:=Lns.at_ (HV.out.kept HKR.out) k x hx
     obtain ⟨kind,text,dest,title,id,cls,prs,args,cits,kids⟩:=x
     simp only [Inl.kind,Inl.text,Inl.dest,Inl.title,Inl.id,Inl.cls,Inl.prs,Inl.args,Inl.cits,Inl.kids] at d0 d1 d2 d3 d4 hC hPP hA hTT hK hfit hk1
     obtain ⟨⟨f1,f2,f3,f4,f5,f6,f7,f8,f9⟩,f10⟩:=hfit
     obtain ⟨aC,cC,rfl,lC⟩:=hC.shape
     obtain ⟨aP,cP,rfl,lP⟩:=hPP.shape
     obtain ⟨aA,cA,rfl,lA⟩:=hA.shape
     obtain ⟨aT,cT,rfl,lT⟩:=hTT.form
     obtain ⟨aK,cK,rfl,lK⟩:=hK.form
     have HMX:=Lib.hid (HMI.out kind text dest title id cls prs args cits kids _ _ _ _ _ wr hC hPP hA hTT hK (by omega) (by omega) (by omega) (by omega) (by omega) f10)
     clear iC iP iA hC hPP hA hTT hK f10 hx hx'
     go_wp2_with fail
     refine HMX.out.mono ?_
     rintro e w4 ⟨cs,zs,rfl,hI,hpz,hk4⟩; have HPZ:=Lib.hid hpz; clear hpz
     obtain ⟨vC1,vP1,vA1,vT1,vK1,rfl,⟨hc1,ic1⟩,⟨hp1,ip1⟩,⟨ha1,ia1⟩,ht1,hl1⟩:=hI
     simp only [Inl.cls,Inl.prs,Inl.args,Inl.cits,Inl.kids,Inl.kind,Inl.text,Inl.dest,Inl.title,Inl.id] at hc1 ic1 hp1 ip1 ha1 ia1 ht1 hl1
     obtain ⟨aC1,cC1,rfl,lC1⟩:=hc1.shape
     obtain ⟨aP1,cP1,rfl,lP1⟩:=hp1.shape
     obtain ⟨aA1,cA1,rfl,lA1⟩:=ha1.shape
     obtain ⟨aT1,cT1,rfl,lT1⟩:=ht1.form
     obtain ⟨aK1,cK1,rfl,lK1⟩:=hl1.form
     dsimp only [inlC,Inl.kind,Inl.text,Inl.dest,Inl.title,Inl.id]
     have HG4:=Lib.hid (HGR.out.kept (inlK n) hk4)
     have HK4:=Lib.hid (HKR.out.trans hk4)
     have hrz:w.heap.size≤wr.heap.size:=HKR.out.size
     have hin:∀ g,wr.heap.size≤g→w.heap.size≤g∧(Value.slice ar ys.length cr).ownBlock≠some g:=fun g hg=>⟨by omega,fun q=>by have:=(HGR.out.blk g q).2; omega⟩
     have HYY:Hid (InlK n (fun g=>w.heap.size≤g∧(Value.slice ar ys.length cr).ownBlock≠some g) w4 [.int .i64 kind,.string (bs text),.string (bs dest),.string (bs title),.string (bs id),.slice aC1 cls.length cC1,.slice aP1 prs.length cP1,.slice aA1 args.length cA1,.slice aT1 cits.length cT1,.slice aK1 zs.length cK1] (Inl.mk kind text dest title id cls prs args cits zs)) :=
      ⟨_,_,_,_,_,rfl,⟨hc1,ic1.mono (fun g _ _ q=>hin g q)⟩,⟨hp1,ip1.mono (fun g _ _ q=>hin g q)⟩,⟨ha1,ia1.mono (fun g _ _ q=>hin g q)⟩,ht1.sam (fun _ _ _=>rfl) (fun g _ q=>hin g q),hl1.sam (fun _ _ _=>rfl) (fun g _ q=>hin g q)⟩
     clear hc1 ic1 hp1 ip1 ha1 ia1 ht1 hl1 hin hk4 HGR HKR HMX d0 d1 d2 d3 d4 d5 d6 d7 d8 d9
     have hka:=kept_alloc w4 (.cells #[.int .i64 kind,.string (bs text),.string (bs dest),.string (bs title),.string (bs id),.slice aC1 cls.length cC1,.slice aP1 prs.length cP1,.slice aA1 args.length cA1,.slice aT1 cits.length cT1,.slice aK1 zs.length cK1] 71)
     have HG2:=Lib.hid (HG4.out.kept (inlK n) hka)
     have HROW:=Lib.hid (Blk.new w4 71 #[.int .i64 kind,.string (bs text),.string (bs dest),.string (bs title),.string (bs id),.slice aC1 cls.length cC1,.slice aP1 prs.length cP1,.slice aA1 args.length cA1,.slice aT1 cits.length cT1,.slice aK1 zs.length cK1])
     have HYZ:=Lib.hid ((inlK n).sam HYY.out (Sam.kept hka) (fun _ _ q=>q))
     have HKA:=Lib.hid (HK4.out.trans hka)
     have hbz:w.heap.size≤(w4.alloc (.cells #[.int .i64 kind,.string (bs text),.string (bs dest),.string (bs title),.string (bs id),.slice aC1 cls.length cC1,.slice aP1 prs.length cP1,.slice aA1 args.length cA1,.slice aT1 cits.length cT1,.slice aK1 zs.length cK1] 71)).heap.size:=HKA.out.size
     clear hka
     go_wp2_with (at_builtin; refine holdQ ?_)
     refine Lib.hid ?_
     refine wpList_append_out (inlK n) rfl (.tmp 18) (.tmp 24) 57 rfl i0 _ 192 Tryz.underlying57 hi hz0 hz1 hz2 rfl (by omega) (by rfl) HG2.out w4.heap.size _ (Inl.mk kind text dest title id cls prs args cits zs) (by rfl) (fun j u hu=>HROW.out.cell j u (by rw [← Array.getElem?_toList]; exact hu)) rfl HYZ.out (by unfold maxLen; omega) (by omega) hbz _ rfl ?_
     intro g7 c7' w17 hout7 hgrow7 hat7 hlt7
     have HO7:=Lib.hid hout7
     have HK17:Hid (Kept w w17):=HKA.out.trans' ((Only.grown hgrow7).below HKA.out.size (fun i q=>(HG2.out.blk i q.symm).1))
     clear hout7 hgrow7 hat7 hlt7 HG2 HROW HYZ HKA HYY hbz
     go_wp2_with fail
     go_roundw
     case rel=>exact ⟨k+1,ys ++ [Inl.mk kind text dest title id cls prs args cits zs],by omega,by go_num,(by rw [List.length_append]; simp; omega),(by show plainL (ys ++ [_])=_; rw [plainL_app,HPY.out,HTK.out]; congr 1; exact plain_same HPZ.out),HO7.out,HK17.out⟩
     case measure=>simp [intOf]; omega
   ·obtain rfl:k=xs.length:=by omega
    have HF:=Lib.hid (HFIN.out _ ys wr HGR.out hyl (by have h:=HPY.out; rwa [List.take_length] at h) HKR.out)
    clear HGR HKR
    go_wp2_with fail
    (try go_ret)
    exact HF.out
end Go.Proofs.YtmcoomlkbgiboaaGreatDoor

/- cite.copyAttr: a copy of attributes. Conditions: lengths. -/
set_option linter.all false
namespace Go.Proofs.YtmcoomlkbgiboaaGreatDoor
open Go.RowKit

set_option maxRecDepth 100000 in
set_option maxHeartbeats 1600000 in
theorem cicat_any (id:Bs) (vC vP:Value) (cls:List Bs) (prs:List Pr) (w:World) (hC:Strs w vC cls) (hP:Prs w vP prs) (hc:cls.length≤1100000) (hp:prs.length≤1100000) :
  Calls Tryz.prog 128 #[atV id vC vP] w (CatP id cls prs w):=by
 have HC:=Lib.hid hC
 have HP:=Lib.hid hP
 obtain ⟨aC,cC,rfl,lC⟩:=hC.shape
 obtain ⟨aP,cP,rfl,lP⟩:=hP.shape
 have HCC:=Lib.hid (fun v w h=>clnS v cls w h hc)
 have HCP:=Lib.hid (fun v w h=>clnF v prs w h hp)
 unfold ClnS at HCC
 unfold ClnF at HCP
 clear hC hP
 have e1:(w.alloc (.cells #[.string (bs id),.slice aC cls.length cC,.slice aP prs.length cP] 56)).heap.size=w.heap.size+1:=by simp
 have HB0:=Lib.hid ((Blk.new w 56 #[.string (bs id),.slice aC cls.length cC,.slice aP prs.length cP]).alloc (.cells #[.string (bs []),.slice none 0 0,.slice none 0 0] 56))
 have HR0:=Blk.new (w.alloc (.cells #[.string (bs id),.slice aC cls.length cC,.slice aP prs.length cP] 56)) 56 #[.string (bs []),.slice none 0 0,.slice none 0 0]
 rw [e1] at HR0
 have HR:=Lib.hid HR0
 have HK0:=Lib.hid ((kept_alloc w (.cells #[.string (bs id),.slice aC cls.length cC,.slice aP prs.length cP] 56)).trans (kept_alloc _ (.cells #[.string (bs []),.slice none 0 0,.slice none 0 0] 56)))
 clear HR0 e1
 obtain ⟨B,HBB⟩:∃ B,Hid (w.heap.size=B):=⟨_,rfl⟩
 have hBz:w.heap.size≤B:=by rw [HBB.out]; exact Nat.le_refl _
 have hBz1:w.heap.size≤B+1:=by omega
 go_enter Tryz.func128,Tryz.ntmps128
 go_wp2_with fail
 generalize World.alloc (World.alloc _ _) _=w0 at *
 rw [HBB.out] at HB0 HR ⊢
 clear HBB
 have hBw0:B<w0.heap.size:=HB0.out.lt
 have hRw0:B+1<w0.heap.size:=HR.out.lt
 refine (HCC.out _ _ (HC.out.kept HK0.out)).mono ?_
 rintro e w1 ⟨v1,rfl,hs1,hi1,hk1⟩
 obtain ⟨a1,c1,rfl,l1⟩:=hs1.shape
 have HS1:=Lib.hid hs1
 have HI1:=Lib.hid hi1
 have HB1:=Lib.hid (HB0.out.kept hk1)
 have HR1:=Lib.hid (HR.out.kept hk1)
 have HK1:=Lib.hid (HK0.out.trans hk1)
 have hz2:w0.heap.size≤(w1.setCell ⟨B,1,none⟩ (.slice a1 cls.length c1)).heap.size:=by rw [size_setCell]; exact hk1.size
 clear hs1 hi1 hk1 HB0 HR HK0 HCC HC
 have b1:w1.cell? ⟨B,1,none⟩=some (.slice aC cls.length cC):=HB1.out.cell 1 _ rfl
 have b2:w1.cell? ⟨B,2,none⟩=some (.slice aP prs.length cP):=HB1.out.cell 2 _ rfl
 have f1:=HB1.out.free 1
 have bz:=HB1.out.lt
 have HB2:Hid (Blk (w1.setCell ⟨B,1,none⟩ (.slice a1 cls.length c1)) B 56 #[.string (bs id),.slice a1 cls.length c1,.slice aP prs.length cP]):=HB1.out.set 1 _
 have HR2:=Lib.hid (HR1.out.other B 1 (.slice a1 cls.length c1) (by omega))
 have HK2:=Lib.hid (kept_set HK1.out B 1 (.slice a1 cls.length c1) hBz)
 have HS2:=Lib.hid (HS1.out.onlS HI1.out (Only.setCell B 1 (.slice a1 cls.length c1)) (fun g _ hs q=>by omega))
 clear HB1 HR1 HK1 HS1
 go_wp2_with fail
 generalize World.setCell _ _ _=w2 at *
 clear b1 b2 f1 bz
 refine (HCP.out _ _ (HP.out.kept HK2.out)).mono ?_
 rintro e w3 ⟨v2,rfl,hs3,hi3,hk3⟩
 obtain ⟨a3,c3,rfl,l3⟩:=hs3.shape
 have HP3:=Lib.hid hs3
 have HI3:=Lib.hid hi3
 have HB3:=Lib.hid (HB2.out.kept hk3)
 have HR3:=Lib.hid (HR2.out.kept hk3)
 have HK3:=Lib.hid (HK2.out.trans hk3)
 have HS3:=Lib.hid (HS2.out.kept hk3)
 clear hs3 hi3 hk3 HB2 HR2 HK2 HS2 HCP HP
 have b0:w3.cell? ⟨B,0,none⟩=some (.string (bs id)):=HB3.out.cell 0 _ rfl
 have b1:w3.cell? ⟨B,1,none⟩=some (.slice a1 cls.length c1):=HB3.out.cell 1 _ rfl
 have b2:w3.cell? ⟨B,2,none⟩=some (.slice aP prs.length cP):=HB3.out.cell 2 _ rfl
 have f2:=HB3.out.free 2
 have bz:=HB3.out.lt
 have HB4:Hid (Blk (w3.setCell ⟨B,2,none⟩ (.slice a3 prs.length c3)) B 56 #[.string (bs id),.slice a1 cls.length c1,.slice a3 prs.length c3]):=HB3.out.set 2 _
 have HR4:=Lib.hid (HR3.out.other B 2 (.slice a3 prs.length c3) (by omega))
 have HK4:=Lib.hid (kept_set HK3.out B 2 (.slice a3 prs.length c3) hBz)
 have HS4:=Lib.hid (HS3.out.onlS HI1.out (Only.setCell B 2 (.slice a3 prs.length c3)) (fun g _ hs q=>by omega))
 have HP4:=Lib.hid (HP3.out.onlS HI3.out (Only.setCell B 2 (.slice a3 prs.length c3)) (fun g _ hs q=>by omega))
 clear HB3 HR3 HK3 HS3 HP3
 go_wp2_with (first
  | (refine wpList_load_blk (by rfl) 56 (.tmp 1) (by rfl) B _ (by rfl) HB4.out _ Tryz.underlying56 rfl Tryz.sizeAt ?_)
  | (refine wpList_store_blk rfl 56 (.tmp 2) (.tmp 11) (by rfl) (B+1) _ #[.string (bs id),.slice a1 cls.length c1,.slice a3 prs.length c3] (by rfl) (by rfl) HR4.out rfl Tryz.sizeAt (by simp only [List.all_toArray,List.all_cons,List.all_nil]; rfl) ?_; intro w9 hb9 ho9; have r0:w9.cell? ⟨B+1,0,none⟩=some (.string (bs id)):=hb9.cell 0 _ rfl; have r1:w9.cell? ⟨B+1,1,none⟩=some (.slice a1 cls.length c1):=hb9.cell 1 _ rfl; have r2:w9.cell? ⟨B+1,2,none⟩=some (.slice a3 prs.length c3):=hb9.cell 2 _ rfl; have rz:=hb9.lt; have HK9:=Lib.hid (HK4.out.trans' (ho9.below HK4.out.size (fun i e=>by rw [e]; exact hBz1))); have HS9:=Lib.hid (HS4.out.onlS HI1.out ho9 (fun g _ hs q=>by omega)); have HP9:=Lib.hid (HP4.out.onlS HI3.out ho9 (fun g _ hs q=>by omega)); clear hb9 ho9))
 have HFIN:CatP id cls prs w (.returned (atV id (.slice a1 cls.length c1) (.slice a3 prs.length c3))) w9:=⟨_,_,rfl,⟨HS9.out,HI1.out.mono fun g _ _ q=>by omega⟩,⟨HP9.out,HI3.out.mono fun g _ _ q=>by omega⟩,HK9.out⟩
 refine bodyPost_ret (v:=atV id (.slice a1 cls.length c1) (.slice a3 prs.length c3)) ?_ rfl HFIN
 simp [results,Tryz.results128,go_sem,r0,r1,r2,rz]
end Go.Proofs.YtmcoomlkbgiboaaGreatDoor

/- (*filler).blocks at one paragraph that holds one citation. Conditions: lengths, the listed variables. -/
set_option linter.all false
namespace Go.Proofs.YtmcoomlkbgiboaaGreatDoor
open Go.RowKit

theorem Tryz.infoBl9:(Tryz.prog.info? 59).map (fun i=>(i.zero,i.size,i.bytes))=some (some (.agg #[.int .i64 0,.int .i64 0,.string ⟨#[]⟩,.string ⟨#[]⟩,.string ⟨#[]⟩,.string ⟨#[]⟩,.string ⟨#[]⟩,.slice none 0 0,.slice none 0 0,.slice none 0 0,.slice none 0 0]),11,192):=by kernel_rfl
set_option maxRecDepth 100000 in
set_option maxHeartbeats 3200000 in
theorem ciblks_nil (vF:Value) (a:Option Addr) (c:Nat) (w:World):Calls Tryz.prog 73 #[vF,.slice a 0 c] w fun e w'=>e=.returned (.slice none 0 0)∧w'=w:=by
 go_enter Tryz.func73,Tryz.ntmps73
 go_wp2_with fail
 go_loopw [5,10] (fun o i wr=>o=.slice none 0 0∧i=.int .i64 0∧w=wr) (fun _ _ _=>1)
 case atStart=>exact ⟨rfl,rfl,rfl⟩
 case round =>
  obtain ⟨rfl,rfl,rfl⟩:=hrel
  go_wp2_with fail
  (try go_ret)
  exact ⟨rfl,rfl⟩
theorem plainL_tx (s:Bs):plainL [txI s]=txB s:=plain_text rfl
theorem OutG.noA {α:Type} {R:(Nat→Prop)→World→List Value→α→Prop} {k:Nat} {A A':Nat→Prop} {base:Nat} {e:TypeId} {w:World} {v:Value} (h:OutG R k A base e w v []):OutG R k A' base e w v []:=by
 obtain ⟨css,h1,h2,h3,h4⟩:=h
 exact ⟨css,h1,h2,h3,fun j cs x hc hx=>by simp at hx⟩
/-- A line that reads as a text. -/
def LnOk (xs:List Inl) (tx:Bs):Prop:=plainL xs=txB tx∧xs.length≤1∧∀ x∈xs,x.kids=[]
theorem Lns.flat {S:Nat→Prop} {w:World} {v:Value} {xs:List Inl} (h:Lns S 1 w v xs):∀ x∈xs,x.kids=[]:=fun x hx=>by
 obtain ⟨a,c,rfl,hc⟩:=h.form
 obtain ⟨j,hj⟩:=List.getElem?_of_mem hx
 obtain ⟨_,_,_,_,_,_,_,_,_,_,_,_,_,_,_,_,_,_,hk⟩:=Lns.at_ h j x hj
 exact hk.no
def BkP (tx:Bs) (w:World) (e:Ending) (w':World):Prop:=∃ v' b,e=.returned v'∧Bls (fun g=>w.heap.size≤g) 2 1 w' v' [b]∧LnOk b.line tx∧Kept w w'
set_option maxRecDepth 100000 in
set_option maxHeartbeats 25600000 in
theorem ciblks_one {S:Nat→Prop} (F M N:Nat) (es:List (Bs × Value)) (vY vEn vA vE vF v:Value) (s:SrcT) (y:StyT) (lang key r info text dest title id itext idest ititle iid:Bs) (level:Int) (cls icls iargs:List Bs) (prs iprs:List Pr) (ikids:List Inl) (n:Int) (w:World) (hen:EnvC w) (hf:Blk w F 136 (flC vY y lang vEn M)) (hm:MapT w M es) (hg:getT es key=some (enV s [] n vA vE vF)) (hY:vY.oneCell'=true) (hy:SmallY y) (hym : -9223372036854775808≤y.most∧y.most≤9223372036854775807) (hn : -9223372036854775808≤n∧n≤9223372036854775807)
  (hA:Perss w vA s.author) (hE:Perss w vE s.editor) (hF:Prs w vF s.fields) (hft:FitL s) (hr:r.length≤1000) (hfl:(fillS (filT s y lang [] n) y.cite).length≤100000000) (htx:(txB (ctB y lang s n (44 :: r))).length≤1000000)
  (hc1:cls.length≤1000000) (hp1:prs.length≤1000000)
  (hT:Bls S (N+1) 1 w v [.mk 1 level info text dest title id cls prs [.mk 13 itext idest ititle iid icls iprs iargs [⟨key,[],44 :: r,false⟩] ikids] []]) :
  Calls Tryz.prog 73 #[.pointer (some ⟨F,0,none⟩),v] w (BkP (ctB y lang s n (44 :: r)) w):=by
 obtain ⟨i0,hi,hz0,hz1,hz2⟩:=info_parts Tryz.infoBl9
 obtain ⟨a,c,rfl,hc⟩:=hT.form
 have HV:=Lib.hid hT
 have HLN:=Lib.hid (fun w' (k:Kept w w') vL (h:Lns S (N+1) w' vL [.mk 13 itext idest ititle iid icls iprs iargs [⟨key,[],44 :: r,false⟩] ikids])=>ciline_one F M N es vY vEn vA vE vF vL s y lang key r itext idest ititle iid icls iargs iprs ikids n w' (hen.kept k) (hf.kept k) (hm.kept k) hg hY hy hym hn (hA.kept k) (hE.kept k) (hF.kept k) hft hr hfl h)
 have HFIN:Hid (∀ v' b w',OutG (BloK 2 0) 11 (fun g=>w.heap.size≤g) w.heap.size 59 w' v' [b]→LnOk b.line (ctB y lang s n (44 :: r))→Kept w w'→BkP (ctB y lang s n (44 :: r)) w (.returned v') w'):=fun v' b w' h h2 k=>⟨v',b,rfl,OutG.row (S:=fun g=>w.heap.size≤g) (bloK 2 0) h (fun _ _ q=>q) (fun g h=>h),h2,k⟩
 generalize BkP (ctB y lang s n (44 :: r)) w=P at *
 obtain ⟨tx,HTX⟩:∃ tx,Hid (ctB y lang s n (44 :: r)=tx):=⟨_,rfl⟩
 rw [HTX.out] at HLN HFIN htx
 have hokT:okIL [txI tx]:=⟨⟨⟨htx,by simp,by simp,by simp,by simp,by simp,by simp,by simp,by simp⟩,trivial⟩,trivial⟩
 have HMG:=Lib.hid (fun S' w' vL (h:Lns S' 1 w' vL [txI tx])=>merge_pl 1 [txI tx] vL w' h (by simp) hokT)
 unfold MgQ at HMG
 have HCAT:=Lib.hid (fun vC vP w' h1 h2=>cicat_any id vC vP cls prs w' h1 h2 (by omega) (by omega))
 unfold CatP at HCAT
 have HNIL:=Lib.hid (fun aK cK w'=>ciblks_nil (.pointer (some ⟨F,0,none⟩)) aK cK w')
 have hrow:([Blo.mk 1 level info text dest title id cls prs [.mk 13 itext idest ititle iid icls iprs iargs [⟨key,[],44 :: r,false⟩] ikids] []]:List Blo).length=1:=rfl
 rw [hrow] at hc HV ⊢
 clear hT hen hf hm hg hA hE hF hft hfl hrow hokT HTX
 go_enter Tryz.func73,Tryz.ntmps73
 go_wp2_with fail
 go_loopw [5,10] (fun v i wr=>∃ (k:Nat) (ys:List Blo),k≤1∧i=.int .i64 k∧Hid (ys.length=k∧∀ b∈ys,LnOk b.line tx)∧Hid (OutG (BloK 2 0) 11 (fun g=>w.heap.size≤g) w.heap.size 59 wr v ys)∧Hid (Kept w wr)) (fun _ i _=>1 - (intOf i).toNat)
 case atStart=>exact ⟨0,[],Nat.zero_le _,rfl,⟨rfl,by simp⟩,OutG.nil _ _ _ _ _ _,Kept.refl _⟩
 case round =>
  obtain ⟨k,ys,hk,rfl,HYS,HGR,HKR⟩:=hrel
  by_cases hlt:k<1
  ·obtain rfl:k=0:=by omega
   obtain rfl:ys=[]:=List.length_eq_zero_iff.1 HYS.out.1
   obtain ⟨ar,cr,rfl,hcr,hmr⟩:=HGR.out.form
   obtain ⟨g,o,vC,vP,vL,vK,rfl,hgg,hgS,-,-,⟨e0,e1,e2,e3,e4,e5,e6,e7,e8,e9,e10⟩,-,⟨hC,iC⟩,⟨hPP,iP⟩,hL,hK⟩:=Bls.at_ HV.out 0 _ rfl
   simp only [Blo.kind,Blo.level,Blo.info,Blo.text,Blo.dest,Blo.title,Blo.id,Blo.cls,Blo.prs,Blo.line,Blo.kids,Nat.zero_mul,Nat.zero_add,Nat.add_zero] at e0 e1 e2 e3 e4 e5 e6 e7 e8 e9 e10 hC hPP hL hK
   have d0:=(HKR.out.cell (p:=⟨g,o,none⟩) hgg).trans e0
   have d1:=(HKR.out.cell (p:=⟨g,o+1,none⟩) hgg).trans e1
   have d2:=(HKR.out.cell (p:=⟨g,o+2,none⟩) hgg).trans e2
   have d3:=(HKR.out.cell (p:=⟨g,o+3,none⟩) hgg).trans e3
   have d4:=(HKR.out.cell (p:=⟨g,o+4,none⟩) hgg).trans e4
   have d5:=(HKR.out.cell (p:=⟨g,o+5,none⟩) hgg).trans e5
   have d6:=(HKR.out.cell (p:=⟨g,o+6,none⟩) hgg).trans e6
   have d7:=(HKR.out.cell (p:=⟨g,o+7,none⟩) hgg).trans e7
   have d8:=(HKR.out.cell (p:=⟨g,o+8,none⟩) hgg).trans e8
   have d9:=(HKR.out.cell (p:=⟨g,o+9,none⟩) hgg).trans e9
   have d10:=(HKR.out.cell (p:=⟨g,o+10,none⟩) hgg).trans e10
   have hgz:g<wr.heap.size:=Nat.lt_of_lt_of_le hgg HKR.out.size
   obtain ⟨aC,cC,rfl,lC⟩:=hC.shape
   obtain ⟨aP,cP,rfl,lP⟩:=hPP.shape
   obtain ⟨aL,cL,rfl,lL⟩:=hL.form
   obtain ⟨aK,cK,hvK,lK⟩:=hK.form
   have hvK':vK=.slice aK 0 cK:=hvK
   subst hvK'
   have HC:=Lib.hid hC
   have HPP:=Lib.hid hPP
   have HL:=Lib.hid hL
   have hB0:=Blk.new wr 59 #[.int .i64 1,.int .i64 level,.string (bs info),.string (bs text),.string (bs dest),.string (bs title),.string (bs id),.slice aC cls.length cC,.slice aP prs.length cP,.slice aL 1 cL,.slice aK 0 cK]
   have HKA:=Lib.hid (kept_alloc wr (.cells #[.int .i64 1,.int .i64 level,.string (bs info),.string (bs text),.string (bs dest),.string (bs title),.string (bs id),.slice aC cls.length cC,.slice aP prs.length cP,.slice aL 1 cL,.slice aK 0 cK] 59))
   obtain ⟨I,HIE⟩:∃ I,Hid (wr.heap.size=I):=⟨_,rfl⟩
   rw [HIE.out] at hB0
   have HB0:=Lib.hid hB0
   have hwI:w.heap.size≤I:=by rw [← HIE.out]; exact HKR.out.size
   have HK1:=Lib.hid (HKR.out.trans HKA.out)
   have HG1:=Lib.hid ((OutG.noA (A':=fun _=>False) HGR.out).kept (bloK 2 0) HKA.out)
   have HRI:Hid (∀ g,(Value.slice ar ([]:List Blo).length cr).ownBlock=some g→g<I):=fun g q=>by have:=(HGR.out.blk g q).2; rw [← HIE.out]; exact this
   clear hB0 hC hPP hL hK iC iP HGR e0 e1 e2 e3 e4 e5 e6 e7 e8 e9 e10
   go_upto_region 7 with fail
   rw [HIE.out]
   have b7:=HB0.out.cell 7 _ rfl
   generalize wr.alloc _=w1 at *
   clear d0 d1 d2 d3 d4 d5 d6 d7 d8 d9 d10 HKA HIE hgz b7
   have hI1:I<w1.heap.size:=HB0.out.lt
   have c6:=HB0.out.cell 6 _ rfl
   have c7:=HB0.out.cell 7 _ rfl
   have c8:=HB0.out.cell 8 _ rfl
   have cz:=HB0.out.lt
   go_wp2_with fail
   refine (HCAT.out _ _ w1 (HC.out.kept HK1.out) (HPP.out.kept HK1.out)).mono ?_
   rintro e w2 ⟨vC1,vP1,rfl,⟨hc2,ic2⟩,⟨hp2,ip2⟩,hk2⟩
   obtain ⟨aC1,cC1,rfl,lC1⟩:=hc2.shape
   obtain ⟨aP1,cP1,rfl,lP1⟩:=hp2.shape
   have HC2:=Lib.hid hc2
   have HP2:=Lib.hid hp2
   have HIC:Hid (InB (fun g=>I<g) (.slice aC1 cls.length cC1) cls.length):=ic2.mono (fun g _ _ q=>by omega)
   have HIP:Hid (InB (fun g=>I<g) (.slice aP1 prs.length cP1) prs.length):=ip2.mono (fun g _ _ q=>by omega)
   have HB2:=Lib.hid (HB0.out.kept hk2)
   have HK2:=Lib.hid (HK1.out.trans hk2)
   have HG2:=Lib.hid (HG1.out.kept (bloK 2 0) hk2)
   clear hc2 hp2 ic2 ip2 hk2 HB0 HK1 HG1 HCAT HC HPP c6 c7 c8 cz hI1
   go_wp2_with (refine wpList_store_part rfl 56 (.tmp 29) (.tmp 28) (by rfl) I 6 59 _ #[.string (bs id),.slice aC1 cls.length cC1,.slice aP1 prs.length cP1] (by rfl) (by rfl) HB2.out (by show 6+3≤11; omega) Tryz.sizeAt (by simp only [List.all_toArray,List.all_cons,List.all_nil]; rfl) ?_; intro w3 hb3 ho3; refine holdC ?_)
   refine Lib.hid ?_
   have HB3:Hid (Blk w3 I 59 #[.int .i64 1,.int .i64 level,.string (bs info),.string (bs text),.string (bs dest),.string (bs title),.string (bs id),.slice aC1 cls.length cC1,.slice aP1 prs.length cP1,.slice aL 1 cL,.slice aK 0 cK]):=hb3
   have HK3:=Lib.hid (HK2.out.trans' (ho3.below HK2.out.size (fun i e=>by rw [e]; exact hwI)))
   have HC3:=Lib.hid (HC2.out.onlS HIC.out ho3 (fun g _ hs q=>by omega))
   have HP3:=Lib.hid (HP2.out.onlS HIP.out ho3 (fun g _ hs q=>by omega))
   have HG3:=Lib.hid (HG2.out.only (bloK 2 0) ho3 (fun g _ q=>q.elim) (fun g q e=>by have:=HRI.out g q; omega))
   clear hb3 ho3 HB2 HK2 HC2 HP2 HG2
   have c9:=HB3.out.cell 9 _ rfl
   have cz:=HB3.out.lt
   go_wp2_with fail
   refine (HLN.out w3 HK3.out (.slice aL 1 cL) (HL.out.kept HK3.out)).mono ?_
   rintro e w4 ⟨v4,rfl,hl4,hk4⟩
   have HL4:=Lib.hid hl4
   have HB4:=Lib.hid (HB3.out.kept hk4)
   have HK4:=Lib.hid (HK3.out.trans hk4)
   have HC4:=Lib.hid (HC3.out.kept hk4)
   have HP4:=Lib.hid (HP3.out.kept hk4)
   have HG4:=Lib.hid (HG3.out.kept (bloK 2 0) hk4)
   clear hl4 hk4 HB3 HK3 HC3 HP3 HG3 HLN HL c9 cz
   go_wp2_with fail
   refine (HMG.out _ w4 v4 HL4.out).mono ?_
   rintro e w5 ⟨v5,zs,rfl,hl5,hzn,hpl,hk5⟩
   obtain ⟨aL1,cL1,rfl,lL1⟩:=hl5.form
   have HPL:Hid (LnOk zs tx):=⟨by rw [hpl,plainL_tx],hzn,hl5.flat⟩
   clear hzn
   have hI4:=HB4.out.lt
   have HL5:Hid (Lns (fun g=>I<g) 1 w5 (.slice aL1 zs.length cL1) zs):=hl5.mono (fun g _ q=>by omega)
   have hb5:=HB4.out.kept hk5
   have c9:=hb5.cell 9 _ rfl
   have f9:=hb5.free 9
   have z9:=hb5.lt
   have ho6:=Only.setCell (w:=w5) I 9 (.slice aL1 zs.length cL1)
   have HB6:Hid (Blk (w5.setCell ⟨I,9,none⟩ (.slice aL1 zs.length cL1)) I 59 #[.int .i64 1,.int .i64 level,.string (bs info),.string (bs text),.string (bs dest),.string (bs title),.string (bs id),.slice aC1 cls.length cC1,.slice aP1 prs.length cP1,.slice aL1 zs.length cL1,.slice aK 0 cK]):=hb5.set 9 _
   have c10:(w5.setCell ⟨I,9,none⟩ (.slice aL1 zs.length cL1)).cell? ⟨I,10,none⟩=some (.slice aK 0 cK):=HB6.out.cell 10 _ rfl
   have HK6:=Lib.hid ((HK4.out.trans hk5).trans' (ho6.below (HK4.out.trans hk5).size (fun i e=>by rw [e]; exact hwI)))
   have HC6:=Lib.hid ((HC4.out.kept hk5).onlS HIC.out ho6 (fun g _ hs q=>by omega))
   have HP6:=Lib.hid ((HP4.out.kept hk5).onlS HIP.out ho6 (fun g _ hs q=>by omega))
   have HL6:=Lib.hid (HL5.out.sam (S':=fun g=>I<g) (Sam.only ho6 (fun g _ hs q=>by omega)) (fun _ _ q=>q))
   have HG6:=Lib.hid ((HG4.out.kept (bloK 2 0) hk5).only (bloK 2 0) ho6 (fun g _ q=>q.elim) (fun g q e=>by have:=HRI.out g q; omega))
   clear hl5 hpl hk5 hb5 ho6 HB4 HK4 HC4 HP4 HG4 HL5 HL4 HMG hI4
   go_wp2_with fail
   generalize World.setCell _ _ _=w6 at *
   clear c9 f9 z9
   refine (HNIL.out aK cK w6).mono ?_
   rintro e w7 ⟨rfl,rfl⟩
   have f10:=HB6.out.free 10
   have z10:=HB6.out.lt
   have ho8:=Only.setCell (w:=w7) I 10 (.slice none 0 0)
   have HB8:Hid (Blk (w7.setCell ⟨I,10,none⟩ (.slice none 0 0)) I 59 #[.int .i64 1,.int .i64 level,.string (bs info),.string (bs text),.string (bs dest),.string (bs title),.string (bs id),.slice aC1 cls.length cC1,.slice aP1 prs.length cP1,.slice aL1 zs.length cL1,.slice none 0 0]):=HB6.out.set 10 _
   have HK8:=Lib.hid (HK6.out.trans' (ho8.below HK6.out.size (fun i e=>by rw [e]; exact hwI)))
   have HC8:=Lib.hid (HC6.out.onlS HIC.out ho8 (fun g _ hs q=>by omega))
   have HP8:=Lib.hid (HP6.out.onlS HIP.out ho8 (fun g _ hs q=>by omega))
   have HL8:=Lib.hid (HL6.out.sam (S':=fun g=>I<g) (Sam.only ho8 (fun g _ hs q=>by omega)) (fun _ _ q=>q))
   have HG8:=Lib.hid (HG6.out.only (bloK 2 0) ho8 (fun g _ q=>q.elim) (fun g q e=>by have:=HRI.out g q; omega))
   clear ho8 HB6 HK6 HC6 HP6 HL6 HG6 HNIL
   go_upto_region 10 with fail
   generalize World.setCell _ _ _=w8 at *
   clear c10 f10 z10
   have e0:=HB8.out.cell 0 _ rfl
   have e1:=HB8.out.cell 1 _ rfl
   have e2:=HB8.out.cell 2 _ rfl
   have e3:=HB8.out.cell 3 _ rfl
   have e4:=HB8.out.cell 4 _ rfl
   have e5:=HB8.out.cell 5 _ rfl
   have e6:=HB8.out.cell 6 _ rfl
   have e7:=HB8.out.cell 7 _ rfl
   have e8:=HB8.out.cell 8 _ rfl
   have e9:=HB8.out.cell 9 _ rfl
   have e10:=HB8.out.cell 10 _ rfl
   have ez:=HB8.out.lt
   have hka:=kept_alloc w8 (.cells #[.int .i64 1,.int .i64 level,.string (bs info),.string (bs text),.string (bs dest),.string (bs title),.string (bs id),.slice aC1 cls.length cC1,.slice aP1 prs.length cP1,.slice aL1 zs.length cL1,.slice none 0 0] 59)
   have HROW:=Lib.hid (Blk.new w8 59 #[.int .i64 1,.int .i64 level,.string (bs info),.string (bs text),.string (bs dest),.string (bs title),.string (bs id),.slice aC1 cls.length cC1,.slice aP1 prs.length cP1,.slice aL1 zs.length cL1,.slice none 0 0])
   have HGA:=Lib.hid ((OutG.noA (A':=fun g=>w.heap.size≤g) HG8.out).kept (bloK 2 0) hka)
   have HKA:=Lib.hid (HK8.out.trans hka)
   have hba:w.heap.size≤(w8.alloc (.cells #[.int .i64 1,.int .i64 level,.string (bs info),.string (bs text),.string (bs dest),.string (bs title),.string (bs id),.slice aC1 cls.length cC1,.slice aP1 prs.length cP1,.slice aL1 zs.length cL1,.slice none 0 0] 59)).heap.size:=HKA.out.size
   have hne:∀ g,I<g→w.heap.size≤g∧(Value.slice ar ([]:List Blo).length cr).ownBlock≠some g:=fun g hg=>⟨by omega,fun q=>by have:=HRI.out g q; omega⟩
   have HYY:Hid (BloK 2 0 (fun g=>w.heap.size≤g∧(Value.slice ar ([]:List Blo).length cr).ownBlock≠some g) (w8.alloc (.cells #[.int .i64 1,.int .i64 level,.string (bs info),.string (bs text),.string (bs dest),.string (bs title),.string (bs id),.slice aC1 cls.length cC1,.slice aP1 prs.length cP1,.slice aL1 zs.length cL1,.slice none 0 0] 59)) [.int .i64 1,.int .i64 level,.string (bs info),.string (bs text),.string (bs dest),.string (bs title),.string (bs id),.slice aC1 cls.length cC1,.slice aP1 prs.length cP1,.slice aL1 zs.length cL1,.slice none 0 0] (.mk 1 level info text dest title id cls prs zs [])) :=
    ⟨_,_,_,_,rfl,⟨HC8.out.kept hka,HIC.out.mono fun g _ _ q=>hne g q⟩,⟨HP8.out.kept hka,HIP.out.mono fun g _ _ q=>hne g q⟩,(HL8.out.ups (by omega)).sam (S':=fun g=>w.heap.size≤g∧(Value.slice ar ([]:List Blo).length cr).ownBlock≠some g) (Sam.kept hka) (fun g _ q=>hne g q),Bls.none_ _ _ _ _⟩
   clear hka HG8 HK8 HC8 HP8 HL8 HIC HIP hne HB8
   go_wp2_with (at_builtin; refine holdC ?_)
   refine Lib.hid ?_
   refine wpList_append_out (bloK 2 0) rfl (.tmp 41) (.tmp 43) 23 rfl i0 _ 192 Tryz.underlying23 hi hz0 hz1 hz2 rfl (by omega) (by rfl) HGA.out w8.heap.size _ _ (by rfl) (fun j u hu=>HROW.out.cell j u (by rw [← Array.getElem?_toList]; exact hu)) rfl HYY.out (by simp; unfold maxLen; omega) (by simp) hba _ rfl ?_
   intro g7 c7' w9 hout7 hgrow7 hat7 hlt7
   have HO9:=Lib.hid hout7
   have HK9:Hid (Kept w w9):=HKA.out.trans' ((Only.grown hgrow7).below HKA.out.size (fun i q=>(HGA.out.blk i q.symm).1))
   clear hout7 hgrow7 hat7 hlt7 HROW HGA HKA hba HYY e0 e1 e2 e3 e4 e5 e6 e7 e8 e9 e10 ez
   go_wp2_with fail
   go_roundw
   case rel=>exact ⟨0+1,_,by omega,by go_num,⟨rfl,fun b hb=>by rcases List.mem_singleton.1 hb with rfl; exact HPL.out⟩,HO9.out,HK9.out⟩
   case measure=>simp [intOf]
  ·obtain rfl:k=1:=by omega
   obtain ⟨b,rfl⟩:∃ b,ys=[b]:=by
    cases ys with
    | nil=>have:=HYS.out.1; simp at this
    | cons b l =>
     have h:=HYS.out.1
     cases l with
     | nil=>exact ⟨b,rfl⟩
     | cons _ _=>simp at h
   have HF:=Lib.hid (HFIN.out _ b wr HGR.out (HYS.out.2 b (by simp)) HKR.out)
   obtain ⟨ar,cr,rfl,hcr,hmr⟩:=HGR.out.form
   clear HGR HFIN HYS
   go_wp2_with fail
   (try go_ret)
   exact HF.out
end Go.Proofs.YtmcoomlkbgiboaaGreatDoor
