/- cite.Order: the sources in the order of the bibliography, or the error. Conditions: lengths, the listed variables. -/
import Derived.Test.YtmcoomlkbgiboaaGreatDoorU29
import Derived.Test.YtmcoomlkbgiboaaGreatDoorU31
import Derived.Test.YtmcoomlkbgiboaaGreatDoorU20
import Derived.Test.YtmcoomlkbgiboaaGreatDoorU19
import Derived.Test.YtmcoomlkbgiboaaGreatDoorU24
import Derived.Test.YtmcoomlkbgiboaaGreatDoorU21
import Derived.Test.YtmcoomlkbgiboaaGreatDoorU01

set_option linter.all false
namespace Go.Proofs.YtmcoomlkbgiboaaGreatDoor
open Go.RowKit

/-- What the walks of cite ask of the listed variables. -/
structure EnvC (w:World):Prop where
 gnd:Gnd w
 tab:Lib.TabIs Tryz.prog w "internal/strconv.uint64pow10" .u64 Lib.pow10Tab
 asc:Lib.TabIs Tryz.prog w "strings.asciiSpace" .u8 Lib.asciiSpaceTab
theorem EnvC.kept {w w':World} (h:EnvC w) (k:Kept w w'):EnvC w':=⟨h.gnd.kept k,tab_kept h.tab k,Lib.tabBelow_of_tabIs h.asc w' k⟩
theorem take_map {α β:Type} {f:α→β} {l:List α} {k:Nat} {x:α} (h:l[k]? = some x):(l.take (k+1)).map f=(l.take k).map f ++ [f x]:=by
 rw [List.take_succ,h,List.map_append]; rfl
theorem Tryz.infoSor:(Tryz.prog.info? 86).map (fun i=>(i.zero,i.size,i.bytes))=some (some (.agg #[.string ⟨#[]⟩,.int .i64 0,.string ⟨#[]⟩,.string ⟨#[]⟩,.string ⟨#[]⟩,.string ⟨#[]⟩,.slice none 0 0,.slice none 0 0,.slice none 0 0]),9,160):=by kernel_rfl
theorem Tryz.infoSo5:(Tryz.prog.info? 50).map (fun i=>(i.zero,i.size,i.bytes))=some (some (.agg #[.string ⟨#[]⟩,.string ⟨#[]⟩,.slice none 0 0,.slice none 0 0,.slice none 0 0]),5,104):=by kernel_rfl
def OrdP (r:Int × List SrcT) (w:World) (e:Ending) (w':World):Prop:=∃ v,e=.returned (.tuple #[v,.int .i64 r.1])∧OutG SrcK 5 (fun g=>w.heap.size≤g) w.heap.size 50 w' v r.2∧Kept w w'
set_option maxRecDepth 100000 in
set_option maxHeartbeats 12800000 in
theorem ciord_any (v vE:Value) (l:List SrcT) (y:StyT) (lang:Bs) (w:World) (hen:EnvC w) (hv:Srcs w v l) (hl:l.length≤19) (hfit:∀ s∈l,FitL s) (hE:Prs w vE y.entries) (hy:SmallY y) :
  Calls Tryz.prog 15 #[v,styV vE y,.string (bs lang)] w (OrdP (ordR y lang l) w):=by
 obtain ⟨i0,hi,hz0,hz1,hz2⟩:=info_parts Tryz.infoSor
 obtain ⟨i5,hi5,hz50,hz51,hz52⟩:=info_parts Tryz.infoSo5
 obtain ⟨a,c,rfl,hc⟩:=(show ∃ a c,v=.slice a l.length c∧l.length≤c by obtain ⟨a,c,e,q,_⟩:=hv; exact ⟨a,c,e,q⟩)
 obtain ⟨aE,cE,rfl,lE⟩:=(show ∃ a c,vE=.slice a y.entries.length c∧y.entries.length≤c by obtain ⟨a,c,e,q,_⟩:=hE; exact ⟨a,c,e,q⟩)
 have HK0:=Lib.hid (kept_alloc w (.cells (styCells (.slice aE y.entries.length cE) y) 33))
 have HY0:=Lib.hid (Blk.new w 33 (styCells (.slice aE y.entries.length cE) y))
 have HCH:=Lib.hid (fun w' (k:Kept w w')=>scheck_any (.slice aE y.entries.length cE) y w' (hen.gnd.kept k) hy (hE.kept k))
 have HEN:=Lib.hid hen
 have HV:=Lib.hid hv
 have HFT:=Lib.hid hfit
 have HFIN0:Hid (styE y≠0→∀ w',Kept w w'→OrdP (ordR y lang l) w (.returned (.tuple #[.slice none 0 0,.int .i64 (styE y)])) w'):=fun h w' k=>by
  unfold ordR; rw [if_neg h]
  exact ⟨_,rfl,OutG.nil _ _ _ _ _ _,k⟩
 have HFIN1:Hid (styE y=0→∀ u w',OutG SrcK 5 (fun g=>w.heap.size≤g) w.heap.size 50 w' u (ordL (locC lang) (wsY y) l)→Kept w w'→OrdP (ordR y lang l) w (.returned (.tuple #[u,.int .i64 0])) w'):=fun h u w' h1 k=>by
  unfold ordR; rw [if_pos h]
  exact ⟨_,rfl,h1,k⟩
 generalize OrdP (ordR y lang l) w=P at *
 clear hen hv hfit hE
 obtain ⟨B,HBB⟩:∃ B,Hid (w.heap.size=B):=⟨_,rfl⟩
 have hwB:w.heap.size≤B:=by rw [HBB.out]; exact Nat.le_refl _
 have HB10:=Lib.hid (sty_cells HY0.out)
 unfold styV styCells at HCH
 unfold styCells at HK0
 unfold styV styCells
 go_enter Tryz.func15,Tryz.ntmps15
 go_upto_region 1 with fail
 rw [HBB.out] at HY0 HB10
 rw [HBB.out]
 unfold styCells at HY0 HB10
 generalize w.alloc _=w0 at *
 have hBw0:B<w0.heap.size:=HY0.out.lt
 obtain ⟨⟨b0,b1,b2,b3,b4,b5,b6,b7,b8,b9⟩,bz⟩:=HB10.out
 have HCX:=Lib.hid (HCH.out w0 HK0.out)
 clear HCH
 go_wp2_with fail
 refine HCX.out.mono ?_
 rintro e w1 ⟨rfl,hk1⟩
 have HK1:=Lib.hid (HK0.out.trans hk1)
 have HY1:=Lib.hid (HY0.out.kept hk1)
 clear hk1 HCX HY0 HK0 HB10 b0 b1 b2 b3 b4 b5 b6 b7 b8 b9 bz
 by_cases he:¬ styE y=0
 ·have hne:(styE y == 0)=false:=by rw [beq_eq_false_iff_ne]; exact he
  have hnb:(styE y != 0)=true:=by rw [bne_iff_ne]; exact he
  have HF:=Lib.hid (HFIN0.out he w1 HK1.out)
  generalize styE y=E at *
  go_wp2_with fail
  (try go_ret2)
  exact HF.out
 ·have he:styE y=0:=Decidable.not_not.1 he
  have HFN:=Lib.hid (HFIN1.out he)
  have HWS:=Lib.hid (srtE_bytes (styE_sort he))
  have hBw1:B<w1.heap.size:=HY1.out.lt
  rw [he]
  clear HFIN0 HFIN1
  go_wp2_with fail
  go_loopw [9,27] (fun o i wr=>∃ (k:Nat),k≤l.length∧i=.int .i64 k∧Hid (OutG SorK 9 (fun g=>g<w1.heap.size) w1.heap.size 86 wr o ((l.take k).map sorOf))∧Hid (Kept w1 wr)) (fun _ i _=>l.length - (intOf i).toNat)
  case atStart=>exact ⟨0,Nat.zero_le _,rfl,OutG.nil _ _ _ _ _ _,Kept.refl _⟩
  case round =>
   obtain ⟨k,hk,rfl,HGR,HKR⟩:=hrel
   by_cases hlt:k<l.length
   ·obtain ⟨x,hx⟩:∃ x,l[k]? = some x:=⟨_,List.getElem?_eq_getElem hlt⟩
    have hft:=HFT.out x (List.mem_of_getElem? hx)
    have HT:=Lib.hid (take_map (f:=sorOf) hx)
    obtain ⟨us,HUS⟩:∃ us,Hid ((l.take k).map sorOf=us):=⟨_,rfl⟩
    have hul:us.length≤19:=by rw [← HUS.out,List.length_map,List.length_take]; omega
    rw [HUS.out] at HGR HT
    obtain ⟨g,o,vA,vE,vF,rfl,hg,e0,e1,e2,e3,e4,pA,pE,pF⟩:=Srcs.at_ (HV.out.kept HK1.out) k x hx
    have c0:=(HKR.out.cell (p:=⟨g,o+k * 5,none⟩) hg).trans e0
    have c1:=(HKR.out.cell (p:=⟨g,o+k * 5+1,none⟩) hg).trans e1
    have c2:=(HKR.out.cell (p:=⟨g,o+k * 5+2,none⟩) hg).trans e2
    have c3:=(HKR.out.cell (p:=⟨g,o+k * 5+3,none⟩) hg).trans e3
    have c4:=(HKR.out.cell (p:=⟨g,o+k * 5+4,none⟩) hg).trans e4
    have HSL:Hid (SrcL (fun g=>g<w1.heap.size) w1 vA vE vF x):=⟨⟨pA,pA.ltB⟩,⟨pE,pE.ltB⟩,pF,pF.ltB⟩
    obtain ⟨aA,cA,rfl,lA⟩:=pA.shape
    obtain ⟨aS,cS,rfl,lS⟩:=pE.shape
    obtain ⟨aF,cF,rfl,lF⟩:=(show ∃ a c,vF=.slice a x.fields.length c∧x.fields.length≤c by obtain ⟨a,c,e,l,_⟩:=pF; exact ⟨a,c,e,l⟩)
    have hgr:g<wr.heap.size:=Nat.lt_of_lt_of_le hg HKR.out.size
    have HKA:=Lib.hid (kept_alloc wr (.cells #[.string (bs x.key),.string (bs x.type),.slice aA x.author.length cA,.slice aS x.editor.length cS,.slice aF x.fields.length cF] 50))
    have HIB:=Lib.hid (Blk.new wr 50 #[.string (bs x.key),.string (bs x.type),.slice aA x.author.length cA,.slice aS x.editor.length cS,.slice aF x.fields.length cF])
    have HFD:=Lib.hid (fun w' (kk:Kept w1 w')=>field_any x.key x.type (.slice aA x.author.length cA) (.slice aS x.editor.length cS) (.slice aF x.fields.length cF) x.fields wTitle w' (pF.kept kk) (by have:=hft.2.2.1; omega))
    unfold FieldPost wTitle at HFD
    have HAU:=Lib.hid (fun w' (kk:Kept w1 w')=>ciauthor_any (.slice aA x.author.length cA) (.slice aS x.editor.length cS) (.slice aF x.fields.length cF) x w' (pA.kept kk) (pE.kept kk) rfl (by have:=authL_len hft; omega) (fun q hq=>by have:=hft.2.2.2.2.2 q (authL_sub x q hq); omega) (by have:=authK_len hft; omega))
    have HYR:=Lib.hid (fun w' (kk:Kept w1 w')=>year_wide x.key x.type (.slice aA x.author.length cA) (.slice aS x.editor.length cS) (.slice aF x.fields.length cF) x.fields w' (pF.kept kk) (by have:=hft.2.2.1; omega) (by have:=fldL_len hft.2.2.2.2.1 kYr; unfold kYr at this; omega))
    have HSO:Hid (sorOf x=⟨⟨authK x,yearL ((fieldL x.fields [121,101,97,114]).getD []),(fieldL x.fields [116,105,116,108,101]).getD [],x.key⟩,x⟩):=rfl
    rw [HSO.out] at HT
    generalize authK x=au at *
    generalize yearL ((fieldL x.fields [121,101,97,114]).getD [])=yr at *
    obtain ⟨tt,HTT⟩:∃ tt,Hid ((fieldL x.fields [116,105,116,108,101]).getD []=tt):=⟨_,rfl⟩
    rw [HTT.out] at HT HFD
    generalize (fieldL x.fields [116,105,116,108,101]).isSome=tb at *
    clear e0 e1 e2 e3 e4 pA pE pF hx hft HSO HTT
    go_wp2_with fail
    refine (HFD.out _ (HKR.out.trans HKA.out)).mono ?_
    rintro e w3 ⟨rfl,hk3⟩
    have HK3:=Lib.hid ((HKR.out.trans HKA.out).trans hk3)
    have HI3:=Lib.hid (HIB.out.kept hk3)
    have HG3:=Lib.hid ((HGR.out.kept sorK HKA.out).kept sorK hk3)
    obtain ⟨I,HII⟩:∃ I,Hid (wr.heap.size=I):=⟨_,rfl⟩
    rw [HII.out] at HI3 ⊢
    clear hk3 HFD HKA HIB HGR HKR c0 c1 c2 c3 c4 hgr HII
    go_upto_region 9 with fail
    refine reg_ord9 x (.slice aA x.author.length cA) (.slice aS x.editor.length cS) (.slice aF x.fields.length cF) I tt au yr (by kernel_rfl) ⟨_,rfl,rfl,rfl,rfl⟩ ⟨_,rfl,rfl,rfl,rfl⟩ ⟨_,rfl,rfl,rfl,rfl⟩ ⟨_,rfl,rfl,rfl,rfl⟩ ⟨_,rfl,rfl,rfl,rfl⟩ ⟨_,rfl,rfl,rfl,rfl⟩ ⟨_,rfl,rfl,rfl,rfl⟩ ⟨_,rfl,rfl,rfl,rfl⟩ ⟨_,rfl,rfl,rfl,rfl⟩ ⟨_,rfl,rfl,rfl,rfl⟩
     (by simp) rfl rfl HI3 (fun w' kk=>HAU.out w' (HK3.out.trans kk)) (fun w' kk=>HYR.out w' (HK3.out.trans kk)) ?_
    intro V w4 TB hV hTB hkb hk4
    simp only [Act.put,List.setIfInBounds_toArray,List.set_cons_zero,List.set_cons_succ]
    rw [hV]
    have HK4:=Lib.hid (HK3.out.trans hk4)
    have HI4:=Lib.hid (HI3.out.kept hk4)
    have HTB:=Lib.hid hkb
    have t0:=HTB.out.cell 0 _ rfl
    have t1:=HTB.out.cell 1 _ rfl
    have t2:=HTB.out.cell 2 _ rfl
    have t3:=HTB.out.cell 3 _ rfl
    have tz:=HTB.out.lt
    have i0':=HI4.out.cell 0 _ rfl
    have i1':=HI4.out.cell 1 _ rfl
    have i2':=HI4.out.cell 2 _ rfl
    have i3':=HI4.out.cell 3 _ rfl
    have i4':=HI4.out.cell 4 _ rfl
    have iz:=HI4.out.lt
    have hka:=kept_alloc w4 (.cells #[.string (bs au),.int .i64 yr,.string (bs tt),.string (bs x.key),.string (bs x.key),.string (bs x.type),.slice aA x.author.length cA,.slice aS x.editor.length cS,.slice aF x.fields.length cF] 86)
    have HROW:=Lib.hid (Blk.new w4 86 #[.string (bs au),.int .i64 yr,.string (bs tt),.string (bs x.key),.string (bs x.key),.string (bs x.type),.slice aA x.author.length cA,.slice aS x.editor.length cS,.slice aF x.fields.length cF])
    have HG6:=Lib.hid ((HG3.out.kept sorK hk4).kept sorK hka)
    have HKA:=Lib.hid (HK4.out.trans hka)
    obtain ⟨ar,cr,rfl,hcr,hmr⟩:=HG3.out.form
    have HYY:Hid (SorK (fun g=>g<w1.heap.size∧(Value.slice ar us.length cr).ownBlock≠some g) _ [.string (bs au),.int .i64 yr,.string (bs tt),.string (bs x.key),.string (bs x.key),.string (bs x.type),.slice aA x.author.length cA,.slice aS x.editor.length cS,.slice aF x.fields.length cF] ⟨⟨au,yr,tt,x.key⟩,x⟩) :=
     ⟨_,_,_,rfl,HSL.out.sam (Sam.kept HKA.out) (fun g _ q=>⟨q,fun e=>by have:=(HG3.out.blk g e).1; omega⟩)⟩
    have hbz:w1.heap.size≤(w4.alloc (.cells #[.string (bs au),.int .i64 yr,.string (bs tt),.string (bs x.key),.string (bs x.key),.string (bs x.type),.slice aA x.author.length cA,.slice aS x.editor.length cS,.slice aF x.fields.length cF] 86)).heap.size:=HKA.out.size
    clear hV hTB hkb hk4 hka HK3 HI3 HG3 HSL HAU HYR HK4
    go_wp2_with (at_builtin; refine holdC ?_)
    refine Lib.hid ?_
    refine wpList_append_out sorK rfl (.tmp 44) (.tmp 48) 78 rfl i0 _ 160 Tryz.underlying78 hi hz0 hz1 hz2 rfl (by omega) (by rfl) HG6.out w4.heap.size _ _ (by rfl) (fun j u hu=>HROW.out.cell j u (by rw [← Array.getElem?_toList]; exact hu)) rfl HYY.out (by unfold maxLen; omega) (by omega) hbz _ rfl ?_
    intro g7 c7' w7 hout7 hgrow7 hat7 hlt7
    have HOUT8:Hid (OutG SorK 9 (fun g=>g<w1.heap.size) w1.heap.size 86 w7 (.slice (some ⟨g7,0,none⟩) (us.length+1) c7') ((l.take (k+1)).map sorOf)):=by rw [HT.out]; exact hout7
    have HK7:Hid (Kept w1 w7):=HKA.out.trans' ((Only.grown hgrow7).below HKA.out.size (fun i q=>(HG6.out.blk i q.symm).1))
    clear hout7 hgrow7 hat7 hlt7 HROW HG6 HKA HYY hbz t0 t1 t2 t3 tz i0' i1' i2' i3' i4' iz HI4 HTB
    go_wp2_with fail
    go_roundw
    case rel=>exact ⟨k+1,by omega,by go_num,HOUT8.out,HK7.out⟩
    case measure=>simp [intOf]; omega
   ·obtain rfl:k=l.length:=by omega
    rw [List.take_length] at HGR
    have HKW:=Lib.hid (HK1.out.trans HKR.out)
    have HYR:=Lib.hid (HY1.out.kept HKR.out)
    have HEW:=Lib.hid (HEN.out.kept HKW.out)
    have HLC:=Lib.hid (loccol_any lang wr HEW.out.gnd HEW.out.tab)
    unfold LocP at HLC
    have HSC:=Lib.hid (locC_small lang)
    have HIG:Hid ((locC lang).ignore=[]):=rfl
    obtain ⟨C,HCC⟩:∃ C,Hid (locC lang=C):=⟨_,rfl⟩
    rw [HCC.out] at HLC HSC HFN HIG
    obtain ⟨so,HSOR⟩:∃ so,Hid (y.sort=so):=⟨_,rfl⟩
    have HWY:Hid (wsY y=Lib.fields so):=by show _=_; rw [← HSOR.out]; rfl
    have HWB:Hid (∀ b∈so,b.toNat<128):=fun b hb=>(HWS.out b (by rw [HSOR.out]; exact hb)).1
    have hsl:so.length≤100000:=by rw [← HSOR.out]; exact hy.2.1
    have HY2:Hid (wr.cell? ⟨B,2,none⟩=some (.string (bs so))∧B<wr.heap.size):=⟨by rw [← HSOR.out]; exact (sty_cells HYR.out).1.2.2.1,HYR.out.lt⟩
    rw [HWY.out] at HFN
    have HWL:Hid ((Lib.fields so).length≤so.length+1):=by show _≤_; rw [← HWY.out,← HSOR.out]; exact wsY_len he
    have HLEN:Hid ((l.map sorOf).length=l.length):=List.length_map _
    obtain ⟨xs,HXS⟩:∃ xs,Hid (l.map sorOf=xs):=⟨_,rfl⟩
    have HGOOD:Hid (∀ z∈xs,FitKy z.k):=fun z hz=>by
     rw [← HXS.out] at hz
     obtain ⟨t,ht,rfl⟩:=List.mem_map.1 hz
     exact keyOf_fit (HFT.out t ht)
    have HSRT:Hid (srtS (fun a b=>cfW C (Lib.fields so) a.k b.k) xs=(ordL C (Lib.fields so) l).map sorOf):=by
     show _=_
     rw [← HXS.out]; exact srtS_ord _ _ _
    rw [HXS.out] at HGR HLEN
    have hl19:xs.length≤19:=by have:=HLEN.out; omega
    obtain ⟨os,HOS⟩:∃ os,Hid (ordL C (Lib.fields so) l=os):=⟨_,rfl⟩
    have HOF:Hid (∀ z∈os,FitL z):=fun z hz=>by
     rw [← HOS.out] at hz
     exact HFT.out z ((ordL_perm C (Lib.fields so) l).mem_iff.1 hz)
    have hol:os.length≤19:=by rw [← HOS.out,ordL_len]; omega
    rw [HOS.out] at HSRT HFN
    clear HWS HSOR HWY HYR HOS HCC HFT HEN HKR
    go_wp2_with fail
    refine HLC.out.mono ?_
    rintro e w2 ⟨vR,vO,rfl,hcol,⟨hiR,hiO⟩,hk2⟩
    have HIR:=Lib.hid hiR
    have HIO:=Lib.hid hiO
    rw [HIG.out]
    have HCOL:=Lib.hid hcol
    obtain ⟨aR,cR,rfl,lR⟩:=hcol.1.form
    obtain ⟨aO,cO,rfl,lO⟩:=hcol.2.form
    have HKA:=Lib.hid (hk2.trans (kept_alloc w2 (.cells #[.slice aR C.ranks.length cR,.slice aO C.order.length cO,.string (bs [])] 88)))
    have HC2:=Lib.hid (Blk.new w2 88 #[.slice aR C.ranks.length cR,.slice aO C.order.length cO,.string (bs [])])
    have HCOL2:=Lib.hid (HCOL.out.kept (kept_alloc w2 (.cells #[.slice aR C.ranks.length cR,.slice aO C.order.length cO,.string (bs [])] 88)))
    obtain ⟨C2,HCE⟩:∃ C2,Hid (w2.heap.size=C2):=⟨_,rfl⟩
    clear hcol hk2 hiR hiO HLC HCOL
    go_upto_region 13 with fail
    rw [HCE.out] at HC2 ⊢
    generalize w2.alloc _=w3 at *
    clear HCE
    have y2:=(HKA.out.cell (p:=⟨B,2,none⟩) HY2.out.2).trans HY2.out.1
    have yz:B<w3.heap.size:=Nat.lt_of_lt_of_le HY2.out.2 HKA.out.size
    have HFE:=Lib.hid (Tryz.strings_Fields_laid (bs so) w3 (by simp; omega) (fun j b hb=>HWB.out b (List.mem_of_getElem? (by simpa using hb))) (HEW.out.kept HKA.out).asc)
    simp only [bs_data] at HFE
    obtain ⟨ws,HWZ⟩:∃ ws,Hid (Lib.fields so=ws):=⟨_,rfl⟩
    rw [HWZ.out] at HFE HSRT
    have hwl:ws.length≤1000000:=by have h:=HWL.out; rw [HWZ.out] at h; omega
    clear HWZ
    go_wp2_with fail
    refine HFE.out.mono ?_
    rintro e w4 ⟨rfl,rfl⟩
    have e4:(w3.alloc (.cells (List.map (fun l=>Value.string ⟨l.toArray⟩) ws).toArray 9))=w3.alloc (.cells (strCells ws).toArray 9):=rfl
    rw [e4]
    clear e4
    have hkf:=kept_alloc w3 (.cells (strCells ws).toArray 9)
    have HSW:=Lib.hid (strs_fresh w3 ws)
    have HSB:=Lib.hid (Blk.new w3 9 (strCells ws).toArray)
    have HC4:=Lib.hid (HC2.out.kept hkf)
    have HCOL4:=Lib.hid (HCOL2.out.kept hkf)
    have HKF:=Lib.hid (HKA.out.trans hkf)
    generalize w3.alloc (.cells (strCells ws).toArray 9)=w4 at *
    generalize w3.heap.size=S4 at *
    clear hkf HC2 HCOL2 HKA HFE y2 yz
    have hkb:=kept_alloc w4 (.cells #[.slice (some ⟨S4,0,none⟩) ws.length ws.length] 29)
    have HCB:=Lib.hid (Blk.new w4 29 #[.slice (some ⟨S4,0,none⟩) ws.length ws.length])
    have HSW5:=Lib.hid (HSW.out.kept hkb)
    have HSB5:=Lib.hid (HSB.out.kept hkb)
    have HC5:=Lib.hid (HC4.out.kept hkb)
    have HCOL5:=Lib.hid (HCOL4.out.kept hkb)
    have HKG:=Lib.hid (HKF.out.trans hkb)
    obtain ⟨C1,HCE⟩:∃ C1,Hid (w4.heap.size=C1):=⟨_,rfl⟩
    clear hkb HSW HSB HC4 HCOL4 HKF
    go_upto_region 14 with fail
    rw [HCE.out] at HCB ⊢
    generalize w4.alloc _=w5 at *
    clear HCE
    have HG5:=Lib.hid (HGR.out.kept sorK HKG.out)
    obtain ⟨ar,cr,rfl,hcr,hmr⟩:=HGR.out.form
    have hrow:∀ g,(Value.slice ar xs.length cr).ownBlock=some g→w1.heap.size≤g∧g<wr.heap.size:=fun g q=>HGR.out.blk g q
    have n1:=OutG.ne_blk HG5.out HCB.out (by decide)
    have n2:=OutG.ne_blk HG5.out HC5.out (by decide)
    have n3:=OutG.ne_blk HG5.out HSB5.out (by decide)
    have HSO:=Lib.hid (sortsS_any C1 C2 w1.heap.size (fun g=>g<w1.heap.size) (fun a b=>cfW C ws a.k b.k) (fun z=>FitKy z.k) _ xs w5 HG5.out HGOOD.out hl19 (fun w' cs ds p q hon gx gy hx hy=>by
     obtain ⟨vA,vE,vF,rfl,h1⟩:=hx
     obtain ⟨uA,uE,uF,rfl,h2⟩:=hy
     obtain ⟨aA,cA,rfl,-⟩:=h1.1.1.shape
     obtain ⟨aS,cS,rfl,-⟩:=h1.2.1.1.shape
     obtain ⟨aF,cF,rfl,-⟩:=(show ∃ a c,vF=.slice a p.src.fields.length c∧p.src.fields.length≤c by obtain ⟨a,c,e,l,_⟩:=h1.2.2.1; exact ⟨a,c,e,l⟩)
     obtain ⟨bA,dA,rfl,-⟩:=h2.1.1.shape
     obtain ⟨bS,dS,rfl,-⟩:=h2.2.1.1.shape
     obtain ⟨bF,dF,rfl,-⟩:=(show ∃ a c,uF=.slice a q.src.fields.length c∧q.src.fields.length≤c by obtain ⟨a,c,e,l,_⟩:=h2.2.2.1; exact ⟨a,c,e,l⟩)
     exact ciorder1_any C1 C2 (.slice (some ⟨S4,0,none⟩) ws.length ws.length) (.slice aR C.ranks.length cR) (.slice aO C.order.length cO) C ws p q aA aS aF bA bS bF _ _ _ _ _ _ cA cS cF dA dS dF w' (HCB.out.onl hon n1) (HSW5.out.onlS (S:=fun g=>g=S4) (fun _ g q=>by cases q; rfl) hon (fun g _ hs q=>n3 (by rw [← hs]; exact q))) (by rw [HIG.out]; exact HC5.out.onl hon n2)
      ⟨HCOL5.out.1.onlS HIR.out hon (fun g _ hs q=>by have:=(hrow g q).2; omega),HCOL5.out.2.onlS HIO.out hon (fun g _ hs q=>by have:=(hrow g q).2; omega)⟩ HSC.out gx gy hwl))
    unfold SrsS at HSO
    rw [HSRT.out] at HSO
    have hos:os.length=xs.length:=by
     have h1:=congrArg List.length HSRT.out
     rw [srtS_len,List.length_map] at h1
     exact h1.symm
    have HOSX:=Lib.hid hos
    clear n1 n2 n3 hos HSRT HGOOD HCOL5 HC5 HSB5 HSW5 HG5 HIR HIO HSC
    go_wp2_with fail
    refine HSO.out.mono ?_
    rintro e w6 ⟨rfl,ho6,hon6⟩
    have HG6:=Lib.hid ho6
    have HK6:Hid (Kept w w6):=(HKW.out.trans HKG.out).trans' (hon6.below (HKW.out.trans HKG.out).size (fun i q=>by have h1:=(hrow i q).1; have h2:=HK1.out.size; omega))
    have HA6:Hid (∀ g,g<w1.heap.size→True):=fun _ _=>trivial
    clear ho6 hon6 HSO HCB HKG hrow HLEN HXS HGR HY2 HEW HKW
    go_wp2_with fail
    go_loopw [17,61] (fun o i wx=>∃ (k:Nat),k≤os.length∧i=.int .i64 k∧Hid (OutG SrcK 5 (fun g=>w6.heap.size≤g) w6.heap.size 50 wx o (os.take k))∧Hid (Kept w6 wx)) (fun _ i _=>os.length - (intOf i).toNat)
    case atStart=>exact ⟨0,Nat.zero_le _,rfl,OutG.nil _ _ _ _ _ _,Kept.refl _⟩
    case round =>
     obtain ⟨k,hk,rfl,HGR,HKR⟩:=hrel
     have hzr:w6.heap.size≤wr.heap.size:=HKR.out.size
     by_cases hlt:k<xs.length
     ·have hlo:k<os.length:=by have:=HOSX.out; omega
      obtain ⟨x,hx⟩:∃ x,os[k]? = some x:=⟨_,List.getElem?_eq_getElem hlo⟩
      have hft:=HOF.out x (List.mem_of_getElem? hx)
      have HT:Hid (os.take (k+1)=os.take k ++ [x]):=by show _=_; rw [List.take_succ,hx]; rfl
      obtain ⟨us,HUS⟩:∃ us,Hid (os.take k=us):=⟨_,rfl⟩
      have hul:us.length≤19:=by rw [← HUS.out,List.length_take]; omega
      rw [HUS.out] at HGR HT
      obtain ⟨g,cs,rfl,hgb,hgz,-,-,-,hcc,hR⟩:=(HG6.out.kept sorK HKR.out).at_ k (sorOf x) (by rw [List.getElem?_map,hx]; rfl)
      obtain ⟨vA,vE,vF,rfl,hS⟩:=hR
      have d0:wr.cell? ⟨g,k * 9,none⟩=some (.string (bs (authK x))):=by have h:=hcc 0 _ rfl; rw [Nat.add_zero] at h; exact h
      have d1:=hcc 1 _ rfl
      have d2:=hcc 2 _ rfl
      have d3:=hcc 3 _ rfl
      have d4:=hcc 4 _ rfl
      have d5:=hcc 5 _ rfl
      have d6:=hcc 6 _ rfl
      have d7:=hcc 7 _ rfl
      have d8:=hcc 8 _ rfl
      obtain ⟨aA,cA,rfl,lA⟩:=hS.1.1.shape
      obtain ⟨aS,cS,rfl,lS⟩:=hS.2.1.1.shape
      obtain ⟨aF,cF,rfl,lF⟩:=(show ∃ a c,vF=.slice a x.fields.length c∧x.fields.length≤c by obtain ⟨a,c,e,l,_⟩:=hS.2.2.1; exact ⟨a,c,e,l⟩)
      have HCP:=Lib.hid (fun w' (kk:Kept wr w')=>cicopy_any (.slice aA x.author.length cA) (.slice aS x.editor.length cS) (.slice aF x.fields.length cF) x w' (hS.1.1.kept kk) (hS.2.1.1.kept kk) (hS.2.2.1.kept kk) (by have:=hft.1; omega) (by have:=hft.2.1; omega) (by have:=hft.2.2.1; omega))
      unfold CpyS at HCP
      unfold sorOf keyOf at d1 d2 d3 d4 d5
      simp only at d1 d2 d3 d4 d5
      obtain ⟨v1,hv1⟩:∃ v,yearL ((fieldL x.fields kYr).getD [])=v:=⟨_,rfl⟩
      obtain ⟨v2,hv2⟩:∃ v,(fieldL x.fields wTitle).getD []=v:=⟨_,rfl⟩
      obtain ⟨v0,hv0⟩:∃ v,authK x=v:=⟨_,rfl⟩
      rw [hv0] at d0
      rw [hv1] at d1
      rw [hv2] at d2
      clear hv0 hv1 hv2 hcc hS hx hft HUS
      have HKA:=Lib.hid (kept_alloc wr (.cells #[.string (bs v0),.int .i64 v1,.string (bs v2),.string (bs x.key),.string (bs x.key),.string (bs x.type),.slice aA x.author.length cA,.slice aS x.editor.length cS,.slice aF x.fields.length cF] 86))
      go_wp2_with fail
      refine (HCP.out _ HKA.out).mono ?_
      rintro e w7 ⟨uA,uS,uF,rfl,hsl,hk7⟩
      obtain ⟨bA,eA,rfl,-⟩:=hsl.1.1.shape
      obtain ⟨bS,eS,rfl,-⟩:=hsl.2.1.1.shape
      obtain ⟨bF,eF,rfl,-⟩:=(show ∃ a c,uF=.slice a x.fields.length c∧x.fields.length≤c by obtain ⟨a,c,e,l,_⟩:=hsl.2.2.1; exact ⟨a,c,e,l⟩)
      have HK7:=Lib.hid ((HKR.out.trans HKA.out).trans hk7)
      have HG7:=Lib.hid ((HGR.out.kept srcK HKA.out).kept srcK hk7)
      have hka:=kept_alloc w7 (.cells #[.string (bs x.key),.string (bs x.type),.slice bA x.author.length eA,.slice bS x.editor.length eS,.slice bF x.fields.length eF] 50)
      have HROW:=Lib.hid (Blk.new w7 50 #[.string (bs x.key),.string (bs x.type),.slice bA x.author.length eA,.slice bS x.editor.length eS,.slice bF x.fields.length eF])
      have HG8:=Lib.hid (HG7.out.kept srcK hka)
      have HK8:=Lib.hid (HK7.out.trans hka)
      obtain ⟨ao,co,rfl,hco,hmo⟩:=HGR.out.form
      have hzz:wr.heap.size≤(wr.alloc (.cells #[.string (bs v0),.int .i64 v1,.string (bs v2),.string (bs x.key),.string (bs x.key),.string (bs x.type),.slice aA x.author.length cA,.slice aS x.editor.length cS,.slice aF x.fields.length cF] 86)).heap.size:=HKA.out.size
      have HYY:Hid (SrcK (fun g=>w6.heap.size≤g∧(Value.slice ao us.length co).ownBlock≠some g) _ [.string (bs x.key),.string (bs x.type),.slice bA x.author.length eA,.slice bS x.editor.length eS,.slice bF x.fields.length eF] x) :=
       ⟨_,_,_,rfl,hsl.sam (Sam.kept hka) (fun g _ q=>⟨by omega,fun e=>by have:=(HGR.out.blk g e).2; omega⟩)⟩
      have hbz:w6.heap.size≤(w7.alloc (.cells #[.string (bs x.key),.string (bs x.type),.slice bA x.author.length eA,.slice bS x.editor.length eS,.slice bF x.fields.length eF] 50)).heap.size:=Nat.le_trans hzr (Nat.le_trans (Nat.le_trans hzz hk7.size) hka.size)
      clear hsl hk7 hka HCP HKA HGR HKR HG7 HK7 d0 d1 d2 d3 d4 d5 d6 d7 d8 hzz hgz
      go_wp2_with (at_builtin; refine holdC ?_)
      refine Lib.hid ?_
      refine wpList_append_out srcK rfl (.tmp 65) (.tmp 69) 31 rfl i5 _ 104 Tryz.underlying31 hi5 hz50 hz51 hz52 rfl (by omega) (by rfl) HG8.out w7.heap.size _ _ (by rfl) (fun j u hu=>HROW.out.cell j u (by rw [← Array.getElem?_toList]; exact hu)) rfl HYY.out (by unfold maxLen; omega) (by omega) hbz _ rfl ?_
      intro g7 c7' w9 hout7 hgrow7 hat7 hlt7
      have HOUT8:Hid (OutG SrcK 5 (fun g=>w6.heap.size≤g) w6.heap.size 50 w9 (.slice (some ⟨g7,0,none⟩) (us.length+1) c7') (os.take (k+1))):=by rw [HT.out]; exact hout7
      have HK9:Hid (Kept w6 w9):=HK8.out.trans' ((Only.grown hgrow7).below HK8.out.size (fun i q=>(HG8.out.blk i q.symm).1))
      clear hout7 hgrow7 hat7 hlt7 HROW HG8 HYY hbz HK8
      go_wp2_with fail
      go_roundw
      case rel=>exact ⟨k+1,by omega,by go_num,HOUT8.out,HK9.out⟩
      case measure=>simp [intOf]; omega
     ·obtain rfl:k=os.length:=by have:=HOSX.out; omega
      rw [List.take_length] at HGR
      have HF:=Lib.hid (HFN.out _ _ ((HGR.out.mono srcK (fun g _ q=>Nat.le_trans HK6.out.size q)).low HK6.out.size) (HK6.out.trans HKR.out))
      obtain ⟨ao,co,rfl,hco,hmo⟩:=HGR.out.form
      clear HGR HFN
      go_wp2_with fail
      (try go_ret2)
      exact HF.out
end Go.Proofs.YtmcoomlkbgiboaaGreatDoor

/- The suffixes a, b to z, aa and so on, in plain Lean. No condition. -/
set_option linter.all false
namespace Go.Proofs.YtmcoomlkbgiboaaGreatDoor
open Go.RowKit

/-- The letters of number n, the last first. -/
def letR (n:Nat):Bs:=if h:n=0 then [] else UInt8.ofNat (97+(n - 1) % 26) :: letR ((n - 1) / 26)
termination_by n
decreasing_by omega
def letL (n:Nat):Bs:=(letR n).reverse
theorem letR_zero:letR 0=[]:=by rw [letR]; rfl
theorem letR_pos {n:Nat} (h:0<n):letR n=UInt8.ofNat (97+(n - 1) % 26) :: letR ((n - 1) / 26):=by
 rw [letR,dif_neg (by omega)]
theorem let_byte {r:Nat} (h:r<26):(UInt8.ofNat (97+r)).toNat=97+r:=by
 rw [UInt8.toNat_ofNat']; omega
theorem letR_inj:∀ (m n:Nat),letR m=letR n→m=n:=by
 intro m
 induction m using Nat.strongRecOn with
 | _ m ih =>
  intro n h
  rcases Nat.eq_zero_or_pos m with rfl | hm
  ·rcases Nat.eq_zero_or_pos n with rfl | hn
   ·rfl
   ·rw [letR_zero,letR_pos hn] at h; cases h
  ·rcases Nat.eq_zero_or_pos n with rfl | hn
   ·rw [letR_zero,letR_pos hm] at h; cases h
   ·rw [letR_pos hm,letR_pos hn] at h
    obtain ⟨h1,h2⟩:=List.cons.inj h
    have h3:=congrArg UInt8.toNat h1
    rw [let_byte (Nat.mod_lt _ (by decide)),let_byte (Nat.mod_lt _ (by decide))] at h3
    have h4:=ih ((m - 1) / 26) (by omega) _ h2
    omega
theorem letL_inj {m n:Nat} (h:letL m=letL n):m=n:=letR_inj m n (List.reverse_inj.1 h)
theorem letL_ne {n:Nat} (h:0<n):letL n≠[]:=by
 unfold letL
 rw [letR_pos h]; simp
theorem letR_len:∀ n,(letR n).length≤n:=by
 intro n
 induction n using Nat.strongRecOn with
 | _ n ih =>
  rcases Nat.eq_zero_or_pos n with rfl | hn
  ·rw [letR_zero]; exact Nat.le_refl _
  ·rw [letR_pos hn,List.length_cons]
   have:=ih ((n - 1) / 26) (by omega)
   omega
theorem letL_len (n:Nat):(letL n).length≤n:=by unfold letL; rw [List.length_reverse]; exact letR_len n
end Go.Proofs.YtmcoomlkbgiboaaGreatDoor

/- Texts with holes, in plain Lean. No condition. -/
set_option linter.all false
namespace Go.Proofs.YtmcoomlkbgiboaaGreatDoor
open Go.RowKit

/-- Bytes and holes. -/
abbrev Tok:=List (Option UInt8)
/-- The holes filled. -/
def tokS (s:Bs):Tok→Bs
 | []=>[]
 | none :: l=>s ++ tokS s l
 | some b :: l=>b :: tokS s l
theorem tokS_app (s:Bs) (a b:Tok):tokS s (a ++ b)=tokS s a ++ tokS s b:=by
 induction a with
 | nil=>rfl
 | cons x a ih =>
  cases x with
  | none=>show s ++ tokS s (a ++ b)=(s ++ tokS s a) ++ _; rw [ih,List.append_assoc]
  | some c=>show c :: tokS s (a ++ b)=(c :: tokS s a) ++ _; rw [ih]; rfl
/-- Texts that are equal with two letters in the holes have the same holes. -/
theorem tok_two {a b:UInt8} (hab:a≠b):∀ (l1 l2:Tok),tokS [a] l1=tokS [a] l2→tokS [b] l1=tokS [b] l2→l1=l2
 | [],[],_,_=>rfl
 | [],none :: l2,h,_=>by cases h
 | [],some c :: l2,h,_=>by cases h
 | none :: l1,[],h,_=>by cases h
 | some c :: l1,[],h,_=>by cases h
 | none :: l1,none :: l2,h1,h2=>by
  rw [tok_two hab l1 l2 (List.cons.inj h1).2 (List.cons.inj h2).2]
 | none :: l1,some c :: l2,h1,h2=>by
  have e1:=(List.cons.inj (show a :: tokS [a] l1=c :: tokS [a] l2 from h1)).1
  have e2:=(List.cons.inj (show b :: tokS [b] l1=c :: tokS [b] l2 from h2)).1
  exact absurd (e1.trans e2.symm) hab
 | some c :: l1,none :: l2,h1,h2=>by
  have e1:=(List.cons.inj (show c :: tokS [a] l1=a :: tokS [a] l2 from h1)).1
  have e2:=(List.cons.inj (show c :: tokS [b] l1=b :: tokS [b] l2 from h2)).1
  exact absurd (e1.symm.trans e2) hab
 | some c :: l1,some d :: l2,h1,h2=>by
  have e1:=List.cons.inj (show c :: tokS [a] l1=d :: tokS [a] l2 from h1)
  have e2:=List.cons.inj (show c :: tokS [b] l1=d :: tokS [b] l2 from h2)
  rw [tok_two hab l1 l2 e1.2 e2.2,e1.1]
theorem tok_len (s:Bs) (l:Tok):(tokS s l).length=(l.filter Option.isSome).length+(l.filter Option.isNone).length * s.length:=by
 induction l with
 | nil=>simp [tokS]
 | cons x l ih =>
  cases x with
  | none =>
   show (s ++ tokS s l).length=_
   rw [List.length_append,ih,List.filter_cons_of_neg (by simp),List.filter_cons_of_pos (by rfl),List.length_cons,Nat.add_mul]; omega
  | some c =>
   show (tokS s l).length+1=_
   rw [ih,List.filter_cons_of_pos (by rfl),List.filter_cons_of_neg (by simp),List.length_cons]; omega
theorem tok_same_len {s t:Bs} (h:s.length=t.length):∀ l:Tok,none∈l→tokS s l=tokS t l→s=t
 | [],hn,_=>(List.not_mem_nil hn).elim
 | none :: l,_,q=>(List.append_inj q h).1
 | some c :: l,hn,q=>by
  rcases List.mem_cons.1 hn with r | r
  ·cases r
  ·exact tok_same_len h l r (List.cons.inj q).2
theorem tokS_some (s l:Bs):tokS s (l.map some)=l:=by
 induction l with
 | nil=>rfl
 | cons b l ih=>show b :: tokS s (l.map some)=_; rw [ih]
theorem tokS_flat {α:Type} (s:Bs) (l:List α) (g:α→Tok):tokS s (l.flatMap g)=l.flatMap fun p=>tokS s (g p):=by
 induction l with
 | nil=>rfl
 | cons x l ih=>rw [List.flatMap_cons,List.flatMap_cons,tokS_app,ih]
theorem tokS_hole (s:Bs):tokS s [none]=s:=by show s ++ []=s; rw [List.append_nil]
/-- With a hole, other fillings are other texts. -/
theorem tok_inj {s t:Bs} {l:Tok} (hn:none∈l) (h:tokS s l=tokS t l):s=t:=by
 have h1:=congrArg List.length h
 rw [tok_len,tok_len] at h1
 have hp:0<(l.filter Option.isNone).length:=List.length_pos_of_mem (List.mem_filter.2 ⟨hn,rfl⟩)
 have h2:(l.filter Option.isNone).length * s.length=(l.filter Option.isNone).length * t.length:=by omega
 exact tok_same_len (Nat.eq_of_mul_eq_mul_left hp h2) l hn h
end Go.Proofs.YtmcoomlkbgiboaaGreatDoor

/- Suffixes that tell citations apart, in plain Lean. Conditions: each text has a hole. -/
set_option linter.all false
namespace Go.Proofs.YtmcoomlkbgiboaaGreatDoor
open Go.RowKit

/-- How a source is cited: without a suffix, and with one in the holes. -/
abbrev CitX:=Bs × Tok
def citN (x:CitX) (n:Nat):Bs:=if n=0 then x.1 else tokS (letL n) x.2
theorem citN_pos {x:CitX} {n:Nat} (h:0<n):citN x n=tokS (letL n) x.2:=if_neg (by omega)
theorem citN_inj {x:CitX} (hx:none∈x.2) {m n:Nat} (hm:0<m) (hn:0<n) (h:citN x m=citN x n):m=n:=by
 rw [citN_pos hm,citN_pos hn] at h
 exact letL_inj (tok_inj hx h)
/-- The first number behind n whose citation is not taken. -/
def frsN (taken:List Bs) (x:CitX):Nat→Nat→Nat
 | 0,n=>n+1
 | f+1,n=>if taken.contains (citN x (n+1))=true then frsN taken x f (n+1) else n+1
theorem pig_cit {x:CitX} (hx:none∈x.2):∀ (m:Nat) (taken:List Bs) (a:Nat),0<a→(∀ j,j<m→citN x (a+j)∈taken)→m≤taken.length
 | 0,_,_,_,_=>Nat.zero_le _
 | m+1,taken,a,ha,h=>by
  have hm:=h m (Nat.lt_succ_self m)
  have h1:=pig_cit hx m (taken.filter fun t=>t != citN x (a+m)) a ha (fun j hj=>by
   refine List.mem_filter.2 ⟨h j (by omega),?_⟩
   rw [bne_iff_ne]
   intro e
   have:=citN_inj hx (by omega) (by omega) e
   omega)
  have h2:(taken.filter fun t=>t != citN x (a+m)).length<taken.length:=by
   refine Nat.lt_of_le_of_ne (List.length_filter_le _ _) (fun e=>?_)
   have:=List.length_filter_eq_length_iff.1 e _ hm
   simp at this
  omega
theorem frsN_spec {x:CitX} (hx:none∈x.2) (taken:List Bs):∀ (f n a:Nat),0<a→a≤n+1→(∀ j,a≤j→j≤n→citN x j∈taken)→taken.length≤f+(n+1 - a) →
  n<frsN taken x f n∧citN x (frsN taken x f n) ∉ taken∧∀ j,a≤j→j<frsN taken x f n→citN x j∈taken
 | 0,n,a,ha,han,hall,hf=>by
  show n<n+1∧citN x (n+1) ∉ taken∧∀ j,a≤j→j<n+1→citN x j∈taken
  refine ⟨by omega,fun q=>?_,fun j h1 h2=>hall j h1 (by omega)⟩
  have:=pig_cit hx (n+2 - a) taken a ha (fun j hj=>by
   by_cases e:a+j=n+1
   ·rw [e]; exact q
   ·exact hall _ (by omega) (by omega))
  omega
 | f+1,n,a,ha,han,hall,hf=>by
  show n<(if taken.contains (citN x (n+1))=true then frsN taken x f (n+1) else n+1)∧citN x (if taken.contains (citN x (n+1))=true then frsN taken x f (n+1) else n+1) ∉ taken∧∀ j,a≤j→j<(if taken.contains (citN x (n+1))=true then frsN taken x f (n+1) else n+1)→citN x j∈taken
  by_cases q:taken.contains (citN x (n+1))=true
  ·rw [if_pos q]
   have hm:citN x (n+1)∈taken:=by simpa using q
   obtain ⟨h1,h2,h3⟩:=frsN_spec hx taken f (n+1) a ha (by omega) (fun j k1 k2=>by
    by_cases e:j=n+1
    ·rw [e]; exact hm
    ·exact hall j k1 (by omega)) (by omega)
   exact ⟨by omega,h2,h3⟩
  ·rw [if_neg q]
   exact ⟨by omega,by simpa using q,fun j h1 h2=>hall j h1 (by omega)⟩
/-- Is a source cited without a suffix as no other one? -/
def aloneB (ps:List Bs) (t:Bs):Bool:=ps.count t == 1
def shpX (x:CitX):Bs × Bs:=(citN x 1,citN x 2)
theorem letL_one:letL 1=[97]:=by unfold letL; rw [letR_pos (by omega)]; rw [show (1 - 1) / 26=0 from rfl,letR_zero]; rfl
theorem letL_two:letL 2=[98]:=by unfold letL; rw [letR_pos (by omega)]; rw [show (2 - 1) / 26=0 from rfl,letR_zero]; rfl
theorem shp_tok {x y:CitX} (h:shpX x=shpX y):x.2=y.2:=by
 have h1:=congrArg Prod.fst h
 have h2:=congrArg Prod.snd h
 simp only [shpX,citN_pos (show 0<1 by omega),citN_pos (show 0<2 by omega),letL_one,letL_two] at h1 h2
 exact tok_two (by decide) _ _ h1 h2
structure SufS where
 taken:List Bs
 next:Bs × Bs→Nat
 out:List Nat
def sufStep (ps:List Bs) (st:SufS) (x:CitX):SufS :=
 if aloneB ps x.1=true then { st with out:=st.out ++ [0] }
 else ⟨st.taken ++ [citN x (frsN st.taken x st.taken.length (st.next (shpX x)))],fun k=>if k=shpX x then frsN st.taken x st.taken.length (st.next (shpX x)) else st.next k,st.out ++ [frsN st.taken x st.taken.length (st.next (shpX x))]⟩
def suf0 (ps:List Bs):SufS:=⟨ps.filter (aloneB ps),fun _=>0,[]⟩
def sufAll (ps:List Bs) (xs:List CitX):SufS:=xs.foldl (sufStep ps) (suf0 ps)
/-- The numbers of the suffixes; 0: none. -/
def sufN (xs:List CitX):List Nat:=(sufAll (xs.map (·.1)) xs).out
theorem sufAll_snoc (ps:List Bs) (xs:List CitX) (x:CitX):sufAll ps (xs ++ [x])=sufStep ps (sufAll ps xs) x:=by unfold sufAll; rw [List.foldl_append]; rfl
/-- What has been cited. -/
def citR (xs:List CitX) (out:List Nat):List Bs:=List.zipWith citN xs out
/-- Between the sources. -/
structure SufI (ps:List Bs) (done:List CitX) (st:SufS):Prop where
 len:st.out.length=done.length
 tk:∀ t,t∈st.taken↔(t∈ps∧aloneB ps t=true)∨t∈citR done st.out
 nx:∀ (x:CitX) (n:Nat),none∈x.2→0<n→n≤st.next (shpX x)→citN x n∈st.taken
 ne:∀ (i:Nat) (x:CitX),done[i]? = some x→aloneB ps x.1=true→st.out[i]? = some 0
 nd:(citR done st.out).Nodup
 al:∀ (i:Nat) (x:CitX) (n:Nat),done[i]? = some x→st.out[i]? = some n→aloneB ps (citN x n)=true→citN x n∈ps→n=0∧aloneB ps x.1=true
 tl:st.taken.length≤(ps.filter (aloneB ps)).length+done.length
theorem citR_snoc {done:List CitX} {out:List Nat} (h:out.length=done.length) (x:CitX) (n:Nat):citR (done ++ [x]) (out ++ [n])=citR done out ++ [citN x n]:=by
 unfold citR
 rw [List.zipWith_append h.symm]; rfl
theorem citR_mem {done:List CitX} {out:List Nat} {t:Bs} (h:t∈citR done out):∃ (i:Nat) (x:CitX) (n:Nat),done[i]? = some x∧out[i]? = some n∧citN x n=t:=by
 obtain ⟨i,hi⟩:=List.getElem?_of_mem h
 unfold citR at hi
 rw [List.getElem?_zipWith] at hi
 cases h1:done[i]? with
 | none=>rw [h1] at hi; simp at hi
 | some x =>
  cases h2:out[i]? with
  | none=>rw [h1,h2] at hi; simp at hi
  | some n=>rw [h1,h2] at hi; exact ⟨i,x,n,h1,h2,by simpa using hi⟩
theorem alone_once {done rest:List CitX} {x y:CitX} {j:Nat} (hy:done[j]? = some y) (h:aloneB ((done ++ x :: rest).map (·.1)) x.1=true):y.1≠x.1:=by
 intro e
 unfold aloneB at h
 rw [List.map_append,List.map_cons,List.count_append,List.count_cons_self,beq_iff_eq] at h
 have:0<(done.map (·.1)).count x.1:=List.count_pos_iff.2 (List.mem_map.2 ⟨y,List.mem_of_getElem? hy,e⟩)
 omega
theorem SufI.zero (ps:List Bs):SufI ps [] (suf0 ps):=by
 refine ⟨rfl,fun t=>?_,fun x n _ h1 h2=>?_,fun i x h=>by simp at h,List.nodup_nil,fun i x n h=>by simp at h,Nat.le_refl _⟩
 ·show t∈ps.filter (aloneB ps)↔_∨t∈[]
  rw [List.mem_filter]; simp
 ·have h2':n≤0:=h2
  omega
theorem SufI.old {ps:List Bs} {done:List CitX} {st:SufS} (h:SufI ps done st) {x:CitX} (hx:none∈x.2):st.next (shpX x)<frsN st.taken x st.taken.length (st.next (shpX x))∧citN x (frsN st.taken x st.taken.length (st.next (shpX x))) ∉ st.taken∧∀ j,1≤j→j<frsN st.taken x st.taken.length (st.next (shpX x))→citN x j∈st.taken :=
 frsN_spec hx st.taken st.taken.length (st.next (shpX x)) 1 (by omega) (by omega) (fun j h1 h2=>h.nx x j hx (by omega) h2) (by omega)
theorem alone_new {done rest:List CitX} {st:SufS} {x:CitX} (h:SufI ((done ++ x :: rest).map (·.1)) done st) (ha:aloneB ((done ++ x :: rest).map (·.1)) x.1=true):x.1 ∉ citR done st.out:=by
 intro q
 obtain ⟨i,y,n,h1,h2,h3⟩:=citR_mem q
 obtain ⟨rfl,-⟩:=h.al i y n h1 h2 (by rw [h3]; exact ha) (by rw [h3]; simp)
 exact alone_once h1 ha h3
theorem SufI.step {done rest:List CitX} {st:SufS} {x:CitX} (h:SufI ((done ++ x :: rest).map (·.1)) done st) (hx:none∈x.2):SufI ((done ++ x :: rest).map (·.1)) (done ++ [x]) (sufStep ((done ++ x :: rest).map (·.1)) st x):=by
 obtain ⟨ps,HP⟩:∃ ps,(done ++ x :: rest).map (·.1)=ps:=⟨_,rfl⟩
 have hmem:x.1∈ps:=by rw [← HP]; simp
 unfold sufStep
 by_cases ha:aloneB ps x.1=true
 ·have hnew:x.1 ∉ citR done st.out:=by rw [← HP] at ha; exact alone_new h ha
  rw [HP] at h ⊢
  rw [if_pos ha]
  have e:=citR_snoc h.len x 0
  have e0:citN x 0=x.1:=rfl
  rw [e0] at e
  refine ⟨by simp [h.len],fun t=>?_,h.nx,fun i y hy hya=>?_,?_,fun i y n hy hn ht htp=>?_,by have:=h.tl; simp; omega⟩
  ·show t∈st.taken↔_∨t∈citR (done ++ [x]) (st.out ++ [0])
   rw [e,h.tk t,List.mem_append,List.mem_singleton]
   constructor
   ·rintro (q | q)
    ·exact .inl q
    ·exact .inr (.inl q)
   ·rintro (q | q | rfl)
    ·exact .inl q
    ·exact .inr q
    ·exact .inl ⟨hmem,ha⟩
  ·show (st.out ++ [0])[i]? = some 0
   rcases Nat.lt_or_ge i done.length with q | q
   ·rw [List.getElem?_append_left q] at hy
    rw [List.getElem?_append_left (by rw [h.len]; exact q)]
    exact h.ne i y hy hya
   ·have hi:i=done.length:=by have:=(List.getElem?_eq_some_iff.1 hy).1; simp at this; omega
    subst hi
    rw [← h.len]; simp
  ·show (citR (done ++ [x]) (st.out ++ [0])).Nodup
   rw [e,List.nodup_append]
   exact ⟨h.nd,by simp,fun a ha' b hb=>by rw [List.mem_singleton.1 hb]; exact fun q=>hnew (q ▸ ha')⟩
  ·have hn':(st.out ++ [0])[i]? = some n:=hn
   rcases Nat.lt_or_ge i done.length with q | q
   ·rw [List.getElem?_append_left q] at hy
    rw [List.getElem?_append_left (by rw [h.len]; exact q)] at hn'
    exact h.al i y n hy hn' ht htp
   ·have hi:i=done.length:=by have:=(List.getElem?_eq_some_iff.1 hy).1; simp at this; omega
    subst hi
    have hy':x=y:=by simpa using hy
    subst hy'
    rw [← h.len] at hn'
    have hn2:0=n:=by simpa using hn'
    exact ⟨hn2.symm,ha⟩
 ·rw [HP] at h ⊢
  rw [if_neg ha]
  obtain ⟨r1,r2,r3⟩:=h.old hx
  generalize frsN st.taken x st.taken.length (st.next (shpX x))=r at *
  have e:=citR_snoc h.len x r
  refine ⟨by simp [h.len],fun t=>?_,fun y n hy h1 h2=>?_,fun i y hy hya=>?_,?_,fun i y n hy hn ht htp=>?_,by have:=h.tl; simp; omega⟩
  ·show t∈st.taken ++ [citN x r]↔_∨t∈citR (done ++ [x]) (st.out ++ [r])
   rw [e,List.mem_append,List.mem_append,List.mem_singleton,h.tk t]
   constructor
   ·rintro ((q | q) | q)
    ·exact .inl q
    ·exact .inr (.inl q)
    ·exact .inr (.inr q)
   ·rintro (q | q | q)
    ·exact .inl (.inl q)
    ·exact .inl (.inr q)
    ·exact .inr q
  ·show citN y n∈st.taken ++ [citN x r]
   have h2':n≤if shpX y=shpX x then r else st.next (shpX y):=h2
   by_cases q:shpX y=shpX x
   ·rw [if_pos q] at h2'
    have ec:citN y n=citN x n:=by rw [citN_pos h1,citN_pos h1,shp_tok q]
    rw [ec]
    rcases Nat.lt_or_ge n r with k | k
    ·exact List.mem_append.2 (.inl (r3 n h1 k))
    ·rw [show n=r by omega]; simp
   ·rw [if_neg q] at h2'
    exact List.mem_append.2 (.inl (h.nx y n hy h1 h2'))
  ·show (st.out ++ [r])[i]? = some 0
   rcases Nat.lt_or_ge i done.length with q | q
   ·rw [List.getElem?_append_left q] at hy
    rw [List.getElem?_append_left (by rw [h.len]; exact q)]
    exact h.ne i y hy hya
   ·have hi:i=done.length:=by have:=(List.getElem?_eq_some_iff.1 hy).1; simp at this; omega
    subst hi
    have hy':x=y:=by simpa using hy
    subst hy'
    exact absurd hya ha
  ·show (citR (done ++ [x]) (st.out ++ [r])).Nodup
   rw [e,List.nodup_append]
   exact ⟨h.nd,by simp,fun a ha' b hb=>by rw [List.mem_singleton.1 hb]; exact fun q=>r2 ((h.tk _).2 (.inr (q ▸ ha')))⟩
  ·have hn':(st.out ++ [r])[i]? = some n:=hn
   rcases Nat.lt_or_ge i done.length with q | q
   ·rw [List.getElem?_append_left q] at hy
    rw [List.getElem?_append_left (by rw [h.len]; exact q)] at hn'
    exact h.al i y n hy hn' ht htp
   ·have hi:i=done.length:=by have:=(List.getElem?_eq_some_iff.1 hy).1; simp at this; omega
    subst hi
    have hy':x=y:=by simpa using hy
    subst hy'
    rw [← h.len] at hn'
    have hn2:r=n:=by simpa using hn'
    subst hn2
    exact absurd ((h.tk _).2 (.inl ⟨htp,ht⟩)) r2
theorem sufI_all (xs:List CitX) (hx:∀ x∈xs,none∈x.2):∀ (done rest:List CitX),done ++ rest=xs→SufI (xs.map (·.1)) done (sufAll (xs.map (·.1)) done):=by
 have key:∀ (n:Nat) (done rest:List CitX),done.length=n→done ++ rest=xs→SufI (xs.map (·.1)) done (sufAll (xs.map (·.1)) done):=by
  intro n
  induction n with
  | zero =>
   intro done rest h1 _
   obtain rfl:=List.length_eq_zero_iff.1 h1
   exact .zero _
  | succ n ih =>
   intro done rest h1 h2
   obtain ⟨o,y,rfl⟩:∃ o y,done=o ++ [y]:=⟨done.dropLast,done.getLast (by intro q; subst q; cases h1),(List.dropLast_concat_getLast _).symm⟩
   have h3:o ++ y :: rest=xs:=by rw [← h2]; simp
   have h4:=ih o (y :: rest) (by simpa using h1) h3
   rw [sufAll_snoc]
   subst h3
   exact h4.step (hx y (by simp))
 intro done rest h
 exact key _ done rest rfl h
end Go.Proofs.YtmcoomlkbgiboaaGreatDoor
