/- cite.Fill at a document of one citation, in a numeric style. Conditions: lengths, the listed variables. -/
import Derived.Test.YtmcoomlkbgiboaaGreatDoorU37
import Derived.Test.YtmcoomlkbgiboaaGreatDoorU38
import Derived.Test.YtmcoomlkbgiboaaGreatDoorU32
import Derived.Test.YtmcoomlkbgiboaaGreatDoorU39
import Derived.Test.YtmcoomlkbgiboaaGreatDoorU12
import Derived.Test.YtmcoomlkbgiboaaGreatDoorU33
import Derived.Test.YtmcoomlkbgiboaaGreatDoorU26
import Derived.Test.YtmcoomlkbgiboaaGreatDoorU34
import Derived.Test.YtmcoomlkbgiboaaGreatDoorU22
import Derived.Test.YtmcoomlkbgiboaaGreatDoorU16
import Derived.Test.YtmcoomlkbgiboaaGreatDoorU19
import Derived.Test.YtmcoomlkbgiboaaGreatDoorU29
import Derived.BigQuiet

set_option linter.all false
namespace Go.Proofs.YtmcoomlkbgiboaaGreatDoor
open Go.RowKit

theorem Srcs.row {S S':Nat→Prop} {w:World} {v:Value} {xs:List SrcT} (h:RowR S 5 (SrcK S' w) w v xs):Srcs w v xs:=by
 obtain ⟨a,c,hv,hc,h3⟩:=h
 refine ⟨a,c,hv,hc,fun q=>?_⟩
 obtain ⟨g,o,ha,hg,-,hcell⟩:=h3 q
 refine ⟨g,o,ha,hg,fun j s hs=>?_⟩
 obtain ⟨cs,hl,hcs,vA,vE,vF,rfl,⟨pA,-⟩,⟨pE,-⟩,pF,-⟩:=hcell j s hs
 exact ⟨vA,vE,vF,(by have:=hcs 0 _ rfl; rwa [Nat.add_zero] at this),hcs 1 _ rfl,hcs 2 _ rfl,hcs 3 _ rfl,hcs 4 _ rfl,pA,pE,pF⟩
theorem FitL.small {s:SrcT} (h:FitL s):SmallS s:=by
 obtain ⟨h1,h2,h3,h4,h5,h6⟩:=h
 refine ⟨?_,?_,?_,by omega,by omega,by omega,by omega,by omega⟩
 ·intro q hq; have:=h6 q (List.mem_append_left _ hq); omega
 ·intro q hq; have:=h6 q (List.mem_append_right _ hq); omega
 ·intro p hp; have:=h5 p hp; omega
def AnyK (_:Nat→Prop) (_:World) (cs:List Value) (_:Unit):Prop:=∀ u∈cs,u.oneCell'=true
theorem anyK:ReadK AnyK:=⟨fun h _ _=>h,fun h u hu=>h u hu⟩
theorem Tryz.infoEnt:(Tryz.prog.info? 138).map (fun i=>(i.zero,i.size,i.bytes))=some (some (.agg #[.string ⟨#[]⟩,.string ⟨#[]⟩,.slice none 0 0,.slice none 0 0,.slice none 0 0,.string ⟨#[]⟩,.int .i64 0]),7,128):=by kernel_rfl
def FiOne (tx:Bs) (w:World) (e:Ending) (w':World):Prop:=∃ aM nM cM vB b,e=.returned (.tuple #[.agg #[.slice aM nM cM,vB],.int .i64 0])∧Bls (fun g=>w.heap.size≤g) 2 1 w' vB [b]∧LnOk b.line tx∧Kept w w'
set_option maxRecDepth 100000 in
set_option maxHeartbeats 25600000 in
theorem cifi_one (N:Nat) (vM vB vL vE:Value) (ms:List Pr) (l:List SrcT) (s:SrcT) (y:StyT) (lang key r info text dest title id itext idest ititle iid:Bs) (level:Int) (cls icls iargs:List Bs) (prs iprs:List Pr) (ikids:List Inl) (w:World) (hen:EnvC w) (hM:Prs w vM ms) (hms:ms.length≤1000)
  (hB:Bls (fun g=>g<w.heap.size) (N+1) 1 w vB [.mk 1 level info text dest title id cls prs [.mk 13 itext idest ititle iid icls iprs iargs [⟨key,[],44 :: r,false⟩] ikids] []])
  (hok:okBL [.mk 1 level info text dest title id cls prs [.mk 13 itext idest ititle iid icls iprs iargs [⟨key,[],44 :: r,false⟩] ikids] []]) (hkey:keysD [.mk 1 level info text dest title id cls prs [.mk 13 itext idest ititle iid icls iprs iargs [⟨key,[],44 :: r,false⟩] ikids] []]=[key])
  (hi1:(inlsL [.mk 1 level info text dest title id cls prs [.mk 13 itext idest ititle iid icls iprs iargs [⟨key,[],44 :: r,false⟩] ikids] []]).length≤1000000) (hi2:∀ x∈inlsL [.mk 1 level info text dest title id cls prs [.mk 13 itext idest ititle iid icls iprs iargs [⟨key,[],44 :: r,false⟩] ikids] []],x.cits.length≤1000000) (hi3:((inlsL [.mk 1 level info text dest title id cls prs [.mk 13 itext idest ititle iid icls iprs iargs [⟨key,[],44 :: r,false⟩] ikids] []]).flatMap citKeys).length≤1000000)
  (hv:Srcs w vL l) (hl:l.length≤100) (hfit:∀ s∈l,FitL s) (hck:checkE l=0) (hfs:findS l key=some s) (hE:Prs w vE y.entries) (hy:SmallY y) (hym : -9223372036854775808≤y.most∧y.most≤9223372036854775807) (hst:styE y=0) (hnu:y.numeric=true)
  (hr:r.length≤1000) (hfl:(fillS (filT s y lang [] 1) y.cite).length≤100000000) (htx:(txB (ctB y lang s 1 (44 :: r))).length≤1000000) (hc1:cls.length≤1000000) (hp1:prs.length≤1000000) :
  Calls Tryz.prog 25 #[.agg #[vM,vB],vL,styV vE y,.string (bs lang)] w (FiOne (ctB y lang s 1 (44 :: r)) w):=by
 obtain ⟨i5,hi5,hz50,hz51,hz52⟩:=info_parts Tryz.infoSo5
 have hft:FitL s:=hfit s (List.mem_of_find?_eq_some hfs)
 have hsk:Hid (s.key=key):=by have:=List.find?_some hfs; exact (show s.key=key by simpa using this)
 generalize hpar:Blo.mk 1 level info text dest title id cls prs [.mk 13 itext idest ititle iid icls iprs iargs [⟨key,[],44 :: r,false⟩] ikids] []=para at *
 obtain ⟨aM,cM,rfl,lM⟩:=(show ∃ a c,vM=.slice a ms.length c∧ms.length≤c by obtain ⟨a,c,e,q,_⟩:=hM; exact ⟨a,c,e,q⟩)
 obtain ⟨aB,cB,rfl,lB⟩:=hB.form
 obtain ⟨aL,cL,rfl,lL⟩:=(show ∃ a c,vL=.slice a l.length c∧l.length≤c by obtain ⟨a,c,e,q,_⟩:=hv; exact ⟨a,c,e,q⟩)
 obtain ⟨aE,cE,rfl,lE⟩:=(show ∃ a c,vE=.slice a y.entries.length c∧y.entries.length≤c by obtain ⟨a,c,e,q,_⟩:=hE; exact ⟨a,c,e,q⟩)
 have hrow:([para]:List Blo).length=1:=rfl
 rw [hrow] at hB lB ⊢
 have HCH:=Lib.hid (fun w' (k:Kept w w')=>scheck_any (.slice aE y.entries.length cE) y w' (hen.gnd.kept k) hy (hE.kept k))
 rw [hst] at HCH
 have HCB:=Lib.hid (fun w' (k:Kept w w')=>check_any (.slice aL l.length cL) l w' (hen.gnd.kept k) (hv.kept k) (fun s hs=>(hfit s hs).small) (by omega))
 rw [hck] at HCB
 have HKE:=Lib.hid (fun w' (k:Kept w w')=>cikeys_any (N+1) 1 aM ms.length cM (.slice aB 1 cB) [para] w' ((hB.kept k).mono (fun g _ q=>Nat.lt_of_lt_of_le q k.size)) (by simp) hok hi1 hi2 hi3)
 rw [hkey] at HKE
 unfold CiKP at HKE
 have HFD:=Lib.hid (fun w' (k:Kept w w')=>find_any (.slice aL l.length cL) l key w' (hv.kept k) (by omega) (fun s hs=>by have:=hfit s hs; exact ⟨by have:=this.1; omega,by have:=this.2.1; omega,by have:=this.2.2.1; omega⟩))
 rw [hfs] at HFD
 unfold FindPost at HFD
 simp only [Option.getD_some,Option.isSome_some] at HFD
 have HOR:=Lib.hid (fun w' (k:Kept w w') v (h:Srcs w' v [s])=>ciord_any v (.slice aE y.entries.length cE) [s] y lang w' (hen.kept k) h (by simp) (fun t ht=>by rw [List.mem_singleton.1 ht]; exact hft) (hE.kept k) hy)
 have hor:ordR y lang [s]=(0,[s]):=by unfold ordR; rw [if_pos hst]; rfl
 rw [hor] at HOR
 unfold OrdP at HOR
 have HSU:=Lib.hid (fun w' (k:Kept w w') v (h:Srcs w' v [s])=>cisuf_any v (.slice aE y.entries.length cE) [s] y lang w' (hen.kept k) h (by simp) (fun t ht=>by rw [List.mem_singleton.1 ht]; exact hft) (hE.kept k) hy hym)
 have hsu:sufR y lang [s]=(0,[[]]):=by unfold sufR; rw [if_pos hst,if_pos hnu]; rfl
 rw [hsu] at HSU
 unfold SufPo at HSU
 have HCL:=Lib.hid (fun w' (k:Kept w w')=>clnF (.slice aM ms.length cM) ms w' (hM.kept k) (by omega))
 unfold ClnF at HCL
 have HBK:=Lib.hid (fun (F M:Nat) (es:List (Bs × Value)) (vEn vA' vE' vF':Value) (w':World) (k:Kept w w') (hf:Blk w' F 136 (flC (.slice aE y.entries.length cE) y lang vEn M)) (hm:MapT w' M es) (hg:getT es key=some (enV s [] 1 vA' vE' vF')) (hA:Perss w' vA' s.author) (hE':Perss w' vE' s.editor) (hF:Prs w' vF' s.fields) =>
  ciblks_one (S:=fun g=>g<w.heap.size) F M N es (.slice aE y.entries.length cE) vEn vA' vE' vF' (.slice aB 1 cB) s y lang key r info text dest title id itext idest ititle iid level cls icls iargs prs iprs ikids 1 w' (hen.kept k) hf hm hg rfl hy hym (by omega) hA hE' hF hft hr hfl htx hc1 hp1 (by rw [hpar]; exact hB.kept k))
 unfold BkP at HBK
 have HFIN:Hid (∀ aM' nM' cM' vB' b w',Bls (fun g=>w.heap.size≤g) 2 1 w' vB' [b]→LnOk b.line (ctB y lang s 1 (44 :: r))→Kept w w'→FiOne (ctB y lang s 1 (44 :: r)) w (.returned (.tuple #[.agg #[.slice aM' nM' cM',vB'],.int .i64 0])) w'):=fun aM' nM' cM' vB' b w' h1 h2 k=>⟨aM',nM',cM',vB',b,rfl,h1,h2,k⟩
 generalize FiOne (ctB y lang s 1 (44 :: r)) w=P at *
 obtain ⟨tx,HTX⟩:∃ tx,Hid (ctB y lang s 1 (44 :: r)=tx):=⟨_,rfl⟩
 rw [HTX.out] at HBK HFIN htx
 clear hM hB hok hkey hi1 hi2 hi3 hv hfit hck hfs hE hst hnu hfl htx hrow hpar hor hsu hen HTX
 have e1:(w.alloc (.cells #[.slice aM ms.length cM,.slice aB 1 cB] 25)).heap.size=w.heap.size+1:=by simp
 have HD0:=Lib.hid (((Blk.new w 25 #[.slice aM ms.length cM,.slice aB 1 cB]).alloc (.cells (styCells (.slice aE y.entries.length cE) y) 33)).alloc (.cells #[.slice none 0 0,.slice none 0 0] 25))
 have hY0:=(Blk.new (w.alloc (.cells #[.slice aM ms.length cM,.slice aB 1 cB] 25)) 33 (styCells (.slice aE y.entries.length cE) y)).alloc (.cells #[.slice none 0 0,.slice none 0 0] 25)
 have hR0:=Blk.new ((w.alloc (.cells #[.slice aM ms.length cM,.slice aB 1 cB] 25)).alloc (.cells (styCells (.slice aE y.entries.length cE) y) 33)) 25 #[.slice none 0 0,.slice none 0 0]
 simp only [World.size_alloc] at hY0 hR0
 have HK0:=Lib.hid (((kept_alloc w (.cells #[.slice aM ms.length cM,.slice aB 1 cB] 25)).trans (kept_alloc _ (.cells (styCells (.slice aE y.entries.length cE) y) 33))).trans (kept_alloc _ (.cells #[.slice none 0 0,.slice none 0 0] 25)))
 obtain ⟨D,HDE⟩:∃ D,Hid (w.heap.size=D):=⟨_,rfl⟩
 rw [HDE.out] at HD0 hY0 hR0
 have hwD:w.heap.size≤D:=by rw [HDE.out]; exact Nat.le_refl _
 have HY0:=Lib.hid hY0
 have HR0:=Lib.hid hR0
 have HB10:=Lib.hid (sty_cells hY0)
 clear hY0 hR0 e1
 unfold styV styCells at HCH HOR HSU
 unfold styCells at HK0 HD0 HY0 HR0 HB10
 unfold styV styCells
 go_enter Tryz.func25,Tryz.ntmps25
 go_upto_region 1 with fail
 rw [HDE.out]
 generalize World.alloc (World.alloc (World.alloc w _) _) _=w0 at *
 obtain ⟨⟨b0,b1,b2,b3,b4,b5,b6,b7,b8,b9⟩,bz⟩:=HB10.out
 go_wp2_with fail
 refine (HCH.out w0 HK0.out).mono ?_
 rintro e w1 ⟨rfl,hk1⟩
 have HK1:=Lib.hid (HK0.out.trans hk1)
 have HD1:=Lib.hid (HD0.out.kept hk1)
 have HY1:=Lib.hid (HY0.out.kept hk1)
 have HR1:=Lib.hid (HR0.out.kept hk1)
 clear hk1 HK0 HD0 HY0 HR0 HB10 HCH b0 b1 b2 b3 b4 b5 b6 b7 b8 b9 bz
 go_wp2_with fail
 refine (HCB.out w1 HK1.out).mono ?_
 rintro e w2 ⟨rfl,hk2⟩
 have HK2:=Lib.hid (HK1.out.trans hk2)
 have HD2:=Lib.hid (HD1.out.kept hk2)
 have HY2:=Lib.hid (HY1.out.kept hk2)
 have HR2:=Lib.hid (HR1.out.kept hk2)
 clear hk2 HK1 HD1 HY1 HR1 HCB
 have x0:=HD2.out.cell 0 _ rfl
 have x1:=HD2.out.cell 1 _ rfl
 have xz:=HD2.out.lt
 go_wp2_with fail
 refine (HKE.out w2 HK2.out).mono ?_
 rintro e w3 ⟨v3,rfl,hs3,hk3⟩
 have HS3:=Lib.hid hs3
 obtain ⟨a3,c3,rfl,l3⟩:=hs3.shape
 have HK3:=Lib.hid (HK2.out.trans hk3)
 have HD3:=Lib.hid (HD2.out.kept hk3)
 have HY3:=Lib.hid (HY2.out.kept hk3)
 have HR3:=Lib.hid (HR2.out.kept hk3)
 have hrow1:([key]:List Bs).length=1:=rfl
 rw [hrow1] at HS3 l3 ⊢
 clear hk3 hs3 HK2 HD2 HY2 HR2 HKE x0 x1 xz hrow1
 go_wp2_with fail
 go_loopw [12,39] (fun v i wr=>∃ (k:Nat),k≤1∧i=.int .i64 k∧Hid (k=0→v=.slice none 0 0)∧Hid (OutG SrcK 5 (fun _=>True) w3.heap.size 50 wr v ([s].take k))∧Hid (Kept w3 wr)) (fun _ i _=>1 - (intOf i).toNat)
 case atStart=>exact ⟨0,Nat.zero_le _,rfl,(fun _=>rfl),OutG.nil _ _ _ _ _ _,Kept.refl _⟩
 case round =>
  obtain ⟨k,hk,rfl,HV0,HGR,HKR⟩:=hrel
  by_cases hlt:k<1
  ·obtain rfl:k=0:=by omega
   obtain rfl:=HV0.out rfl
   have HG0:Hid (OutG SrcK 5 (fun _=>True) w3.heap.size 50 wr (.slice none 0 0) []):=HGR.out
   obtain ⟨g,o,rfl,hgg,d0,-,-⟩:=(HS3.out.kept HKR.out).cell_of 0 _ rfl
   rw [Nat.add_zero] at d0
   have HFX:=Lib.hid (HFD.out wr (HK3.out.trans HKR.out))
   clear HGR HFD
   go_wp2_with fail
   refine HFX.out.mono ?_
   rintro e w4 ⟨uA,uS,uF,rfl,pA,pE,pF,hk4⟩
   obtain ⟨bA,eA,rfl,-⟩:=pA.shape
   obtain ⟨bS,eS,rfl,-⟩:=pE.shape
   obtain ⟨bF,eF,rfl,-⟩:=(show ∃ a c,uF=.slice a s.fields.length c∧s.fields.length≤c by obtain ⟨a,c,e,l,_⟩:=pF; exact ⟨a,c,e,l⟩)
   have hk5:=kept_alloc w4 (.cells #[.string (bs s.key),.string (bs s.type),.slice bA s.author.length eA,.slice bS s.editor.length eS,.slice bF s.fields.length eF] 50)
   have hk6:=kept_alloc (w4.alloc (.cells #[.string (bs s.key),.string (bs s.type),.slice bA s.author.length eA,.slice bS s.editor.length eS,.slice bF s.fields.length eF] 50)) (.cells #[.string (bs s.key),.string (bs s.type),.slice bA s.author.length eA,.slice bS s.editor.length eS,.slice bF s.fields.length eF] 50)
   have HROW:=Lib.hid (Blk.new (w4.alloc (.cells #[.string (bs s.key),.string (bs s.type),.slice bA s.author.length eA,.slice bS s.editor.length eS,.slice bF s.fields.length eF] 50)) 50 #[.string (bs s.key),.string (bs s.type),.slice bA s.author.length eA,.slice bS s.editor.length eS,.slice bF s.fields.length eF])
   have HKA:=Lib.hid ((HKR.out.trans hk4).trans (hk5.trans hk6))
   have HGA:=Lib.hid (HG0.out.kept srcK (hk4.trans (hk5.trans hk6)))
   have HYY:Hid (SrcK (fun g=>True∧(Value.slice none 0 0).ownBlock≠some g) ((w4.alloc (.cells #[.string (bs s.key),.string (bs s.type),.slice bA s.author.length eA,.slice bS s.editor.length eS,.slice bF s.fields.length eF] 50)).alloc (.cells #[.string (bs s.key),.string (bs s.type),.slice bA s.author.length eA,.slice bS s.editor.length eS,.slice bF s.fields.length eF] 50)) [.string (bs s.key),.string (bs s.type),.slice bA s.author.length eA,.slice bS s.editor.length eS,.slice bF s.fields.length eF] s) :=
    ⟨_,_,_,rfl,⟨⟨pA.kept (hk5.trans hk6),fun _ _ _=>⟨trivial,fun h=>by cases h⟩⟩,⟨pE.kept (hk5.trans hk6),fun _ _ _=>⟨trivial,fun h=>by cases h⟩⟩,pF.kept (hk5.trans hk6),fun _ _ _=>⟨trivial,fun h=>by cases h⟩⟩⟩
   have hbz:w3.heap.size≤((w4.alloc (.cells #[.string (bs s.key),.string (bs s.type),.slice bA s.author.length eA,.slice bS s.editor.length eS,.slice bF s.fields.length eF] 50)).alloc (.cells #[.string (bs s.key),.string (bs s.type),.slice bA s.author.length eA,.slice bS s.editor.length eS,.slice bF s.fields.length eF] 50)).heap.size:=HKA.out.size
   rw [World.size_alloc] at HROW
   clear hk4 hk5 hk6 pA pE pF HG0 HKR HFX d0 hgg HV0
   go_wp2_with (at_builtin; refine holdC ?_)
   refine Lib.hid ?_
   refine wpList_append_out srcK rfl (.tmp 52) (.tmp 54) 31 rfl i5 _ 104 Tryz.underlying31 hi5 hz50 hz51 hz52 rfl (by omega) (by rfl) HGA.out (w4.heap.size+1) _ _ (by rfl) (fun j u hu=>HROW.out.cell j u (by rw [← Array.getElem?_toList]; exact hu)) rfl HYY.out (by simp; unfold maxLen; omega) (by simp) hbz _ rfl ?_
   intro g7 c7' w7 hout7 hgrow7 hat7 hlt7
   have HOUT8:Hid (OutG SrcK 5 (fun _=>True) w3.heap.size 50 w7 (.slice (some ⟨g7,0,none⟩) (([]:List SrcT).length+1) c7') ([s].take (0+1))):=hout7
   have HK7:Hid (Kept w3 w7):=HKA.out.trans' ((Only.grown hgrow7).below HKA.out.size (fun i q=>(HGA.out.blk i q.symm).1))
   clear hout7 hgrow7 hat7 hlt7 HROW HGA HKA hbz HYY
   go_wp2_with fail
   go_roundw
   case rel=>exact ⟨0+1,by omega,by go_num,(fun h=>absurd h (by omega)),HOUT8.out,HK7.out⟩
   case measure=>simp [intOf]
  ·obtain rfl:k=1:=by omega
   have HG0:Hid (OutG SrcK 5 (fun _=>True) w3.heap.size 50 wr _ [s]):=HGR.out
   have HSR:=Lib.hid (Srcs.row (HG0.out.row (S:=fun _=>True) srcK (fun _ _ q=>q) (fun _ _=>trivial)))
   obtain ⟨ar,cr,rfl,hcr,hmr⟩:=HG0.out.form
   have HK4:=Lib.hid (HK3.out.trans HKR.out)
   have HD4:=Lib.hid (HD3.out.kept HKR.out)
   have HY4:=Lib.hid (HY3.out.kept HKR.out)
   have HR4:=Lib.hid (HR3.out.kept HKR.out)
   have HOX:=Lib.hid (HOR.out wr HK4.out _ HSR.out)
   have HB10:=Lib.hid (sty_cells (vE:=.slice aE y.entries.length cE) (y:=y) HY4.out)
   obtain ⟨⟨b0,b1,b2,b3,b4,b5,b6,b7,b8,b9⟩,bz⟩:=HB10.out
   clear HGR HG0 HSR HKR HV0 HOR HFD HK3 HD3 HY3 HR3 HB10
   go_wp2_with fail
   refine HOX.out.mono ?_
   rintro e w5 ⟨v5,rfl,ho5,hk5⟩
   have HO5:=Lib.hid ho5
   obtain ⟨a5,c5,rfl,hc5,hm5⟩:=ho5.form
   have HK5:=Lib.hid (HK4.out.trans hk5)
   have HD5:=Lib.hid (HD4.out.kept hk5)
   have HY5:=Lib.hid (HY4.out.kept hk5)
   have HR5:=Lib.hid (HR4.out.kept hk5)
   have HSR:=Lib.hid (Srcs.row (ho5.row (S:=fun _=>True) srcK (fun _ _ _=>trivial) (fun _ _=>trivial)))
   have HSX:=Lib.hid (HSU.out w5 HK5.out _ HSR.out)
   have HB10:=Lib.hid (sty_cells (vE:=.slice aE y.entries.length cE) (y:=y) HY5.out)
   clear hk5 ho5 HK4 HD4 HY4 HR4 HOX HSR HSU b0 b1 b2 b3 b4 b5 b6 b7 b8 b9 bz
   obtain ⟨⟨b0,b1,b2,b3,b4,b5,b6,b7,b8,b9⟩,bz⟩:=HB10.out
   clear HB10
   go_wp2_with fail
   refine HSX.out.mono ?_
   rintro e w6 ⟨v6,rfl,hs6,hk6⟩
   have HS6:=Lib.hid hs6
   obtain ⟨a6,c6,rfl,l6⟩:=hs6.shape
   have HK6:=Lib.hid (HK5.out.trans hk6)
   have HD6:=Lib.hid (HD5.out.kept hk6)
   have HY6:=Lib.hid (HY5.out.kept hk6)
   have HR6:=Lib.hid (HR5.out.kept hk6)
   have HO6:=Lib.hid (HO5.out.kept srcK hk6)
   have HB10:=Lib.hid (sty_cells (vE:=.slice aE y.entries.length cE) (y:=y) HY6.out)
   clear hk6 hs6 HK5 HD5 HY5 HR5 HO5 HSX b0 b1 b2 b3 b4 b5 b6 b7 b8 b9 bz
   obtain ⟨⟨b0,b1,b2,b3,b4,b5,b6,b7,b8,b9⟩,bz⟩:=HB10.out
   clear HB10
   have mkM:=run_makeMap (P:=Tryz.prog) 133 w6
   have HMT:=Lib.hid (MapT.made w6)
   go_upto_region 23 with fail
   have hf7:=Blk.new (w6.alloc (.map #[] 0)) 136 #[.string (bs y.name),.bool y.numeric,.string (bs y.sort),.string (bs y.cite),.string (bs y.bare),.string (bs y.between),.string (bs y.begin_),.string (bs y.end_),.int .i64 y.most,.slice aE y.entries.length cE,.string (bs lang),.slice none 0 0,.map (some w6.heap.size)]
   rw [World.size_alloc] at hf7
   have HKM:=Lib.hid ((kept_alloc w6 (.map #[] 0)).trans (kept_alloc _ (.cells #[.string (bs y.name),.bool y.numeric,.string (bs y.sort),.string (bs y.cite),.string (bs y.bare),.string (bs y.between),.string (bs y.begin_),.string (bs y.end_),.int .i64 y.most,.slice aE y.entries.length cE,.string (bs lang),.slice none 0 0,.map (some w6.heap.size)] 136)))
   have HM7:=Lib.hid (HMT.out.kept (kept_alloc (w6.alloc (.map #[] 0)) (.cells #[.string (bs y.name),.bool y.numeric,.string (bs y.sort),.string (bs y.cite),.string (bs y.bare),.string (bs y.between),.string (bs y.begin_),.string (bs y.end_),.int .i64 y.most,.slice aE y.entries.length cE,.string (bs lang),.slice none 0 0,.map (some w6.heap.size)] 136)))
   obtain ⟨M,HME⟩:∃ M,Hid (w6.heap.size=M):=⟨_,rfl⟩
   rw [HME.out] at hf7 HM7 HKM ⊢
   have HF7:=Lib.hid hf7
   have HRM:Hid (D+1+1<M):=by show _<_; rw [← HME.out]; exact HR6.out.lt
   clear hf7 HMT mkM b0 b1 b2 b3 b4 b5 b6 b7 b8 b9 bz
   generalize World.alloc (World.alloc w6 _) _=w7 at *
   have HK7:=Lib.hid (HK6.out.trans HKM.out)
   have HD7:=Lib.hid (HD6.out.kept HKM.out)
   have HR7:=Lib.hid (HR6.out.kept HKM.out)
   have HO7:=Lib.hid (HO6.out.kept srcK HKM.out)
   have HS7:=Lib.hid (HS6.out.kept HKM.out)
   have hD7:=HD7.out.lt
   clear HK6 HD6 HR6 HY6 HO7 HS7
   go_wp2_with fail
   obtain ⟨wo,rfl⟩:∃ wo:World,wo=wr:=⟨_,rfl⟩
   have HMW:Hid (w6.heap.size=M):=HME.out
   go_loopw [86] (fun i wr=>∃ (k:Nat) (vEn:Value) (es:List (Bs × Value)),k≤1∧i=.int .i64 k∧Hid (k=0→vEn=.slice none 0 0)∧Hid (Blk wr (M+1) 136 #[.string (bs y.name),.bool y.numeric,.string (bs y.sort),.string (bs y.cite),.string (bs y.bare),.string (bs y.between),.string (bs y.begin_),.string (bs y.end_),.int .i64 y.most,.slice aE y.entries.length cE,.string (bs lang),vEn,.map (some M)])∧Hid (MapT wr M es)∧Hid (k=1→∃ uA uS uF,getT es key=some (enV s [] 1 uA uS uF)∧Perss w6 uA s.author∧Perss w6 uS s.editor∧Prs w6 uF s.fields)∧Hid (Only (fun g=>g=M∨g=M+1∨w7.heap.size≤g) w7 wr)) (fun i _=>1 - (intOf i).toNat)
   case atStart=>exact ⟨0,.slice none 0 0,[],Nat.zero_le _,rfl,(fun _=>rfl),HF7.out,HM7.out,(fun h=>absurd h (by omega)),Only.of_kept (Kept.refl _)⟩
   case round =>
    obtain ⟨k,vEn,es,hk,rfl,HV0,HF,HM,HE1,HON⟩:=hrel
    by_cases hlt:k<1
    ·obtain rfl:k=0:=by omega
     obtain rfl:=HV0.out rfl
     have HKX:Hid (Kept w6 wr):=HKM.out.trans' (HON.out.below HKM.out.size (fun i e=>by have:=HMW.out; have:=HKM.out.size; omega))
     obtain ⟨g,cs,rfl,hgb,hgz,-,-,-,hcc,hR⟩:=HO6.out.at_ 0 s rfl
     obtain ⟨uA,uS,uF,rfl,hS⟩:=hR
     have d0:=(HKX.out.cell (p:=⟨g,0 * 5+0,none⟩) hgz).trans (hcc 0 _ rfl)
     have d1:=(HKX.out.cell (p:=⟨g,0 * 5+1,none⟩) hgz).trans (hcc 1 _ rfl)
     have d2:=(HKX.out.cell (p:=⟨g,0 * 5+2,none⟩) hgz).trans (hcc 2 _ rfl)
     have d3:=(HKX.out.cell (p:=⟨g,0 * 5+3,none⟩) hgz).trans (hcc 3 _ rfl)
     have d4:=(HKX.out.cell (p:=⟨g,0 * 5+4,none⟩) hgz).trans (hcc 4 _ rfl)
     simp only [Nat.zero_mul,Nat.zero_add] at d0 d1 d2 d3 d4
     obtain ⟨bA,eA,rfl,-⟩:=hS.1.1.shape
     obtain ⟨bS,eS,rfl,-⟩:=hS.2.1.1.shape
     obtain ⟨bF,eF,rfl,-⟩:=(show ∃ a c,uF=.slice a s.fields.length c∧s.fields.length≤c by obtain ⟨a,c,e,l,_⟩:=hS.2.2.1; exact ⟨a,c,e,l⟩)
     have HPA:=Lib.hid hS.1.1
     have HPS:=Lib.hid hS.2.1.1
     have HPF:=Lib.hid hS.2.2.1
     obtain ⟨g2,o2,rfl,hg2,t0',-,-⟩:=HS6.out.cell_of 0 _ rfl
     have t0:=(HKX.out.cell (p:=⟨g2,o2+0,none⟩) hg2).trans t0'
     rw [Nat.add_zero] at t0
     have hgr:g<wr.heap.size:=Nat.lt_of_lt_of_le hgz HKX.out.size
     have hgr2:g2<wr.heap.size:=Nat.lt_of_lt_of_le hg2 HKX.out.size
     have HIB:=Lib.hid (Blk.new wr 50 #[.string (bs s.key),.string (bs s.type),.slice bA s.author.length eA,.slice bS s.editor.length eS,.slice bF s.fields.length eF])
     have hka:=kept_alloc wr (.cells #[.string (bs s.key),.string (bs s.type),.slice bA s.author.length eA,.slice bS s.editor.length eS,.slice bF s.fields.length eF] 50)
     have HF2:=Lib.hid (HF.out.kept hka)
     have HM2:=Lib.hid (HM.out.kept hka)
     have HON2:=Lib.hid (HON.out.trans (Only.of_kept hka))
     have t2:=(hka.cell (p:=⟨g2,o2,none⟩) hgr2).trans t0
     have t2z:g2<(wr.alloc (.cells #[.string (bs s.key),.string (bs s.type),.slice bA s.author.length eA,.slice bS s.editor.length eS,.slice bF s.fields.length eF] 50)).heap.size:=Nat.lt_of_lt_of_le hgr2 hka.size
     obtain ⟨I,HIE⟩:∃ I,Hid (wr.heap.size=I):=⟨_,rfl⟩
     rw [HIE.out] at HIB
     have hMI:M+1<I:=by rw [← HIE.out]; exact HF.out.lt
     clear hcc hS t0' hka hgb HF HM HON HE1 HV0
     go_upto_region 26 with fail
     rw [HIE.out]
     generalize wr.alloc _=w8 at *
     clear d0 d1 d2 d3 d4 t0 hgr hgr2
     have i0:=HIB.out.cell 0 _ rfl
     have i1:=HIB.out.cell 1 _ rfl
     have i2:=HIB.out.cell 2 _ rfl
     have i3:=HIB.out.cell 3 _ rfl
     have i4:=HIB.out.cell 4 _ rfl
     have iz:=HIB.out.lt
     go_region
     have hke:Kept w8 (w8.alloc (.cells #[.string (bs s.key),.string (bs s.type),.slice bA s.author.length eA,.slice bS s.editor.length eS,.slice bF s.fields.length eF,.string (bs []),.int .i64 1] 138)).drew:=(kept_alloc w8 (.cells #[.string (bs s.key),.string (bs s.type),.slice bA s.author.length eA,.slice bS s.editor.length eS,.slice bF s.fields.length eF,.string (bs []),.int .i64 1] 138)).trans (kept_drewN _ 1)
     have HEB:Hid (Blk (w8.alloc (.cells #[.string (bs s.key),.string (bs s.type),.slice bA s.author.length eA,.slice bS s.editor.length eS,.slice bF s.fields.length eF,.string (bs []),.int .i64 1] 138)).drew w8.heap.size 138 #[.string (bs s.key),.string (bs s.type),.slice bA s.author.length eA,.slice bS s.editor.length eS,.slice bF s.fields.length eF,.string (bs []),.int .i64 1]):=(Blk.new w8 138 #[.string (bs s.key),.string (bs s.type),.slice bA s.author.length eA,.slice bS s.editor.length eS,.slice bF s.fields.length eF,.string (bs []),.int .i64 1]).kept (kept_drewN _ 1)
     have HIB3:=Lib.hid (HIB.out.kept hke)
     have HF3:=Lib.hid (HF2.out.kept hke)
     have HM3:=Lib.hid (HM2.out.kept hke)
     have HON3:Hid (Only (fun g=>g=M∨g=M+1∨w7.heap.size≤g) w7 (w8.alloc (.cells #[.string (bs s.key),.string (bs s.type),.slice bA s.author.length eA,.slice bS s.editor.length eS,.slice bF s.fields.length eF,.string (bs []),.int .i64 1] 138)).drew):=HON2.out.trans (Only.of_kept hke)
     obtain ⟨E,HEE⟩:∃ E,Hid (w8.heap.size=E):=⟨_,rfl⟩
     rw [HEE.out] at HEB
     have hIE:I<E:=by rw [← HEE.out]; exact iz
     go_upto_region 27 with fail
     rw [HEE.out]
     change Code.wp _ _ _ _ (w8.alloc (.cells #[.string (bs s.key),.string (bs s.type),.slice bA s.author.length eA,.slice bS s.editor.length eS,.slice bF s.fields.length eF,.string (bs []),.int .i64 1] 138)).drew
     generalize (w8.alloc (.cells #[.string (bs s.key),.string (bs s.type),.slice bA s.author.length eA,.slice bS s.editor.length eS,.slice bF s.fields.length eF,.string (bs []),.int .i64 1] 138)).drew=w9 at *
     clear i0 i1 i2 i3 i4 iz t2 t2z hke HIB HF2 HM2 HON2 HEE HIE
     have f11:=HF3.out.cell 11 _ rfl
     have ff11:=HF3.out.free 11
     have fz:=HF3.out.lt
     have c0:=HEB.out.cell 0 _ rfl
     have c1:=HEB.out.cell 1 _ rfl
     have c2:=HEB.out.cell 2 _ rfl
     have c3:=HEB.out.cell 3 _ rfl
     have c4:=HEB.out.cell 4 _ rfl
     have c5:=HEB.out.cell 5 _ rfl
     have c6:=HEB.out.cell 6 _ rfl
     have cz:=HEB.out.lt
     have hkf:Kept w9 (w9.alloc (.cells #[.string (bs s.key),.string (bs s.type),.slice bA s.author.length eA,.slice bS s.editor.length eS,.slice bF s.fields.length eF,.string (bs []),.int .i64 1] 138)).drew:=(kept_alloc w9 (.cells #[.string (bs s.key),.string (bs s.type),.slice bA s.author.length eA,.slice bS s.editor.length eS,.slice bF s.fields.length eF,.string (bs []),.int .i64 1] 138)).trans (kept_drewN _ 1)
     have HROW:Hid (Blk (w9.alloc (.cells #[.string (bs s.key),.string (bs s.type),.slice bA s.author.length eA,.slice bS s.editor.length eS,.slice bF s.fields.length eF,.string (bs []),.int .i64 1] 138)).drew w9.heap.size 138 #[.string (bs s.key),.string (bs s.type),.slice bA s.author.length eA,.slice bS s.editor.length eS,.slice bF s.fields.length eF,.string (bs []),.int .i64 1]):=(Blk.new w9 138 #[.string (bs s.key),.string (bs s.type),.slice bA s.author.length eA,.slice bS s.editor.length eS,.slice bF s.fields.length eF,.string (bs []),.int .i64 1]).kept (kept_drewN _ 1)
     have HNIL:Hid (OutG AnyK 7 (fun _=>True) 0 138 (w9.alloc (.cells #[.string (bs s.key),.string (bs s.type),.slice bA s.author.length eA,.slice bS s.editor.length eS,.slice bF s.fields.length eF,.string (bs []),.int .i64 1] 138)).drew (.slice none 0 0) ([]:List Unit)):=OutG.nil _ _ _ _ _ _
     have HKF:=Lib.hid hkf
     obtain ⟨iE,hiE,hzE0,hzE1,hzE2⟩:=info_parts Tryz.infoEnt
     clear hkf
     go_wp2_with fail
     go_region_law (first
      | (refine step_append_out anyK rfl (.tmp 103) (.tmp 105) 134 rfl iE _ 128 Tryz.underlying134 hiE hzE0 hzE1 hzE2 rfl (by omega) (by rfl) HNIL.out w9.heap.size _ () (by rfl) (fun j u hu=>HROW.out.cell j u (by rw [← Array.getElem?_toList]; exact hu)) rfl (by intro u hu; simp at hu; rcases hu with rfl | rfl | rfl | rfl | rfl | rfl | rfl <;> rfl) (by simp; unfold maxLen; omega) (by simp) (Nat.zero_le _) _ rfl ?_; intro g7 cap w10 hout7 hgrow7 hat7 hlt7; have HK10:Hid (Kept w9 w10):=HKF.out.trans' ((Only.grown hgrow7).below HKF.out.size (fun i q=>by cases q)); have f10:=(HF3.out.kept HK10.out).cell 11 _ rfl; have ff10:=(HF3.out.kept HK10.out).free 11; have fz10:=(HF3.out.kept HK10.out).lt; clear hout7 hgrow7 hat7 hlt7))
     all_goals
      have ho11:=Only.setCell (w:=w10) (M+1) 11 (.slice (some ⟨g7,0,none⟩) 1 cap)
      have HF11:Hid (Blk (w10.setCell ⟨M+1,11,none⟩ (.slice (some ⟨g7,0,none⟩) 1 cap)) (M+1) 136 #[.string (bs y.name),.bool y.numeric,.string (bs y.sort),.string (bs y.cite),.string (bs y.bare),.string (bs y.between),.string (bs y.begin_),.string (bs y.end_),.int .i64 y.most,.slice aE y.entries.length cE,.string (bs lang),.slice (some ⟨g7,0,none⟩) 1 cap,.map (some M)]):=(HF3.out.kept HK10.out).set 11 _
      have HM11:=Lib.hid ((HM3.out.kept HK10.out).only ho11 (by omega))
      have HE11:=Lib.hid ((HEB.out.kept HK10.out).onl ho11 (by omega))
      have HI11:=Lib.hid ((HIB3.out.kept HK10.out).onl ho11 (by omega))
      have HON11:Hid (Only (fun g=>g=M∨g=M+1∨w7.heap.size≤g) w7 (w10.setCell ⟨M+1,11,none⟩ (.slice (some ⟨g7,0,none⟩) 1 cap))):=(HON3.out.trans (Only.of_kept HK10.out)).trans (ho11.mono (fun i _ q=>.inr (.inl q)))
      clear ho11 HF3 HM3 HEB HIB3 HON3 HK10 f10 ff10 fz10 HROW HNIL HKF f11 ff11 fz c0 c1 c2 c3 c4 c5 c6 cz
      go_upto_region 28 with fail
      generalize w10.setCell _ _=w11 at *
      have k12:=HF11.out.cell 12 _ rfl
      have kz:=HF11.out.lt
      have i0:=HI11.out.cell 0 _ rfl
      have iz:=HI11.out.lt
      have c0:=HE11.out.cell 0 _ rfl
      have c1:=HE11.out.cell 1 _ rfl
      have c2:=HE11.out.cell 2 _ rfl
      have c3:=HE11.out.cell 3 _ rfl
      have c4:=HE11.out.cell 4 _ rfl
      have c5:=HE11.out.cell 5 _ rfl
      have c6:=HE11.out.cell 6 _ rfl
      have cz:=HE11.out.lt
      have hmd:MapT w11.drew M es:=HM11.out.kept (kept_drewN w11 1)
      obtain ⟨es',hes,up⟩:=upT (P:=Tryz.prog) (tm:=133) (te:=138) Tryz.underlying133 Tryz.underlying9 w11.drew M es s.key (.agg #[.string (bs s.key),.string (bs s.type),.slice bA s.author.length eA,.slice bS s.editor.length eS,.slice bF s.fields.length eF,.string (bs []),.int .i64 1]) hmd
      have HUP:=Lib.hid hes
      have HMD:=Lib.hid hmd
      clear hes hmd
      go_region
      all_goals
       have ho12:=putT_only w11.drew M es'
       have kd:Kept w11 w11.drew:=kept_drewN w11 1
       have HF12:Hid (Blk (putT w11.drew M es') (M+1) 136 #[.string (bs y.name),.bool y.numeric,.string (bs y.sort),.string (bs y.cite),.string (bs y.bare),.string (bs y.between),.string (bs y.begin_),.string (bs y.end_),.int .i64 y.most,.slice aE y.entries.length cE,.string (bs lang),.slice (some ⟨g7,0,none⟩) 1 cap,.map (some M)]):=(HF11.out.kept kd).onl ho12 (by omega)
       have HM12:Hid (MapT (putT w11.drew M es') M es'):=putT_map w11.drew M es' HMD.out.lt
       have HON12:Hid (Only (fun g=>g=M∨g=M+1∨w7.heap.size≤g) w7 (putT w11.drew M es')):=(HON11.out.trans (Only.of_kept kd)).trans (ho12.mono (fun i _ q=>.inl q))
       have HEN:Hid (getT es' key=some (enV s [] 1 (.slice bA s.author.length eA) (.slice bS s.editor.length eS) (.slice bF s.fields.length eF))):=by
        show _=_
        rw [HUP.out key,if_pos hsk.out.symm]
       clear ho12 kd HF11 HM11 HON11 HE11 HI11 HUP HMD up k12 kz i0 iz c0 c1 c2 c3 c4 c5 c6 cz
       go_wp2_with fail
       go_roundw
       case rel=>exact ⟨0+1,_,es',by omega,by go_num,(fun h=>absurd h (by omega)),HF12.out,HM12.out,(fun _=>⟨_,_,_,HEN.out,HPA.out,HPS.out,HPF.out⟩),HON12.out⟩
       case measure=>simp [intOf]
    ·obtain rfl:k=1:=by omega
     obtain ⟨uA,uS,uF,hge,pA,pS,pF⟩:=HE1.out rfl
     have HGE:=Lib.hid hge
     have HPA:=Lib.hid pA
     have HPS:=Lib.hid pS
     have HPF:=Lib.hid pF
     have HKX:Hid (Kept w6 wr):=HKM.out.trans' (HON.out.below HKM.out.size (fun i e=>by have:=HMW.out; have:=HKM.out.size; omega))
     have HK8:Hid (Kept w wr):=HK7.out.trans' (HON.out.below HK7.out.size (fun i e=>by have:=HRM.out; have:=HK7.out.size; omega))
     have hrm:=HRM.out
     have hr7:=HR7.out.lt
     have HD8:=Lib.hid (HD7.out.onl HON.out (by omega))
     have HR8:=Lib.hid (HR7.out.onl HON.out (by omega))
     have hMz:=HF.out.lt
     have HB8:=Lib.hid (fun w' (k:Kept wr w')=>HBK.out (M+1) M es vEn uA uS uF w' (HK8.out.trans k) (HF.out.kept k) (HM.out.kept k) HGE.out (HPA.out.kept (HKX.out.trans k)) (HPS.out.kept (HKX.out.trans k)) (HPF.out.kept (HKX.out.trans k)))
     have HM8:=Lib.hid (fun w' (k:Kept wr w')=>HCL.out w' (HK8.out.trans k))
     have x0:wr.cell? ⟨D,0,none⟩=some (.slice aM ms.length cM):=HD8.out.cell 0 _ rfl
     have x1:wr.cell? ⟨D,1,none⟩=some (.slice aB 1 cB):=HD8.out.cell 1 _ rfl
     have zD:D<wr.heap.size:=HD8.out.lt
     obtain ⟨R,HRE⟩:∃ R,Hid (D+1+1=R):=⟨_,rfl⟩
     have hDR':D≠R:=by have:=HRE.out; omega
     have hwR:w.heap.size≤R:=by have:=HRE.out; omega
     rw [HRE.out] at HR8
     have hR8:R<wr.heap.size:=HR8.out.lt
     have HCC:Hid (∀ w',Only (fun i=>i=R) wr w'→(w'.cell? ⟨D,0,none⟩=some (.slice aM ms.length cM)∧w'.cell? ⟨D,1,none⟩=some (.slice aB 1 cB))∧D<w'.heap.size∧Only (fun i=>i=R) wr w'):=fun w' h=>⟨⟨(h.cell D 0 zD hDR').trans x0,(h.cell D 1 zD hDR').trans x1⟩,Nat.lt_of_lt_of_le zD h.size,h⟩
     have hkd:Kept wr wr.drew:=kept_drewN wr 1
     have hod:Only (fun i=>i=R) wr wr.drew:=Only.of_kept hkd
     clear hge pA pS pF HGE HPA HPS HPF HKX HF HM HON HD8 HBK HCL HE1 HV0 HO6 HS6 HKM hrm hMz hr7 HMW HK7 HD7 HR7 HRM HF7 HM7
     go_upto_region 30 with fail
     rw [HRE.out]
     go_region_held3 (fun w'=>(w'.cell? ⟨D,0,none⟩=some (.slice aM ms.length cM)∧w'.cell? ⟨D,1,none⟩=some (.slice aB 1 cB))∧D<w'.heap.size∧Only (fun i=>i=R) wr w')
      ((refine HCC.out _ ?_; assumption))
      (first
       | (go_at_call 73; refine (HB8.out _ kA).mono ?_; rintro e wb ⟨vB1,b1,rfl,hB1,hpl1,hkb⟩; have kB:Kept wr wb:=kA.trans hkb; have oB:Only (fun i=>i=R) wr wb:=Only.of_kept kB; have HBR:=Lib.hid hB1; have HPL:=Lib.hid hpl1; have HMB:=Lib.hid (HMA.out.kept hkb); obtain ⟨aB1,cB1,hvb,lB1⟩:=hB1.form; have hvb':vB1=.slice aB1 1 cB1:=hvb; subst hvb'; have KAS:wr.heap.size≤wa.heap.size:=kA.size; have KBZ:=Lib.hid kB; have oC:Only (fun i=>i=R) wr ((wb.setCell ⟨R,0,none⟩ (.slice aM1 ms.length cM1)).setCell ⟨R,1,none⟩ (.slice aB1 1 cB1)):=(oB.trans (Only.setCell (w:=wb) R 0 (.slice aM1 ms.length cM1))).trans (Only.setCell R 1 (.slice aB1 1 cB1)); have r0:wb.cell? ⟨R,0,none⟩=some (.slice none 0 0):=(HR8.out.kept kB).cell 0 _ rfl; have r1:wb.cell? ⟨R,1,none⟩=some (.slice none 0 0):=(HR8.out.kept kB).cell 1 _ rfl; have s0:=(HR8.out.kept kB).free 0; have s1:=(HR8.out.kept kB).free 1; have rz:=(HR8.out.kept kB).lt; clear hB1 hkb hvb hpl1)
       | (go_at_call 72; refine (HM8.out _ (by assumption)).mono ?_; rintro e wa ⟨vM1,rfl,hm1,hi1,hka⟩; have kA:Kept wr wa:=Kept.trans (by assumption) hka; have oA:Only (fun i=>i=R) wr wa:=Only.of_kept kA; have HMA:=Lib.hid hm1; have HIM:Hid (InB (fun g=>R<g) vM1 ms.length):=hi1.mono (fun g _ _ q=>Nat.lt_of_lt_of_le hR8 q); obtain ⟨aM1,cM1,rfl,lM1⟩:=hm1.form; clear hm1 hi1 hka))
     all_goals
      have ho1:=Only.setCell (w:=wb) R 0 (.slice aM1 ms.length cM1)
      have ho2:=Only.setCell (w:=wb.setCell ⟨R,0,none⟩ (.slice aM1 ms.length cM1)) R 1 (.slice aB1 1 cB1)
      have ho:=ho1.trans ho2
      have hk9:=kept_set (kept_set (HK8.out.trans KBZ.out) R 0 (.slice aM1 ms.length cM1) hwR) R 1 (.slice aB1 1 cB1) hwR
      have hb9:Bls (fun g=>w.heap.size≤g) 2 1 ((wb.setCell ⟨R,0,none⟩ (.slice aM1 ms.length cM1)).setCell ⟨R,1,none⟩ (.slice aB1 1 cB1)) (.slice aB1 1 cB1) [b1] :=
       HBR.out.sam (S':=fun g=>w.heap.size≤g) (Sam.only ho (fun g _ q q2=>by omega)) (fun g _ q=>Nat.le_trans HK8.out.size (Nat.le_trans KAS q))
      have HFI:=Lib.hid (HFIN.out aM1 ms.length cM1 (.slice aB1 1 cB1) b1 _ hb9 HPL.out hk9)
      clear ho1 ho2 ho hk9 hb9 HFIN
      go_wp2_with fail
      refine bodyPost_ret (v:=.tuple #[.agg #[.slice aM1 ms.length cM1,.slice aB1 1 cB1],.int .i64 0]) ?_ rfl HFI.out
      simp [results,Tryz.results25,go_sem,r0,r1,rz]
end Go.Proofs.YtmcoomlkbgiboaaGreatDoor

/- publisherref04.Plain: the plain text of inlines. Condition: its length. -/
set_option linter.all false
namespace Go.Proofs.YtmcoomlkbgiboaaGreatDoor
open Go.RowKit

/-- The lengths of the kids, some layers deep. -/
def lenK:Nat→List Inl→Prop
 | 0,_=>True
 | n+1,xs=>∀ x∈xs,x.kids.length≤1000000∧lenK n x.kids
set_option maxRecDepth 100000 in
set_option maxHeartbeats 12800000 in
theorem rplain4_any {S:Nat→Prop}:∀ (n:Nat) (xs:List Inl) (v:Value) (w:World),Lns S n w v xs→xs.length≤1000000→lenK n xs→(plainL xs).length≤1000000→Calls Tryz.prog 30 #[v] w fun e w'=>e=.returned (.string (bs (plainL xs)))∧Kept w w':=by
 intro n
 induction n with
 | zero =>
  intro xs v w hv hl hok hp
  obtain rfl:=hv.no
  obtain ⟨a,c,rfl,hc⟩:=hv.form
  show Calls Tryz.prog 30 #[.slice a 0 c] w fun e w'=>e=.returned (.string (bs []))∧Kept w w'
  clear hv hok hp
  go_enter Tryz.func30,Tryz.ntmps30
  go_wp2_with fail
  simp only [mk_bs]
  go_loopw [3,4] (fun o i wr=>o=.string (bs [])∧i=.int .i64 0∧w=wr) (fun _ _ _=>1)
  case atStart=>exact ⟨rfl,rfl,rfl⟩
  case round =>
   obtain ⟨rfl,rfl,rfl⟩:=hrel
   go_wp2_with fail
   (try go_ret)
   exact ⟨rfl,Kept.refl _⟩
 | succ n ih =>
  intro xs v w hv hl hok hp
  have HV:=Lib.hid hv
  have HOK:=Lib.hid hok
  have HIH:=Lib.hid ih
  have HPL:=Lib.hid (fun k=>plainL_le xs k)
  have HFN:Hid (∀ t,t=plainL (xs.take xs.length)→t=plainL xs):=fun t h=>by rwa [List.take_length] at h
  obtain ⟨a,c,rfl,hc⟩:=hv.form
  obtain ⟨R,HR⟩:∃ R,Hid (plainL xs=R):=⟨_,rfl⟩
  rw [HR.out] at hp HPL HFN ⊢
  clear hv hok ih HR
  go_enter Tryz.func30,Tryz.ntmps30
  go_wp2_with fail
  simp only [mk_bs]
  go_loopw [3,4] (fun o i wr=>∃ (k:Nat) (t:Bs),k≤xs.length∧i=.int .i64 k∧o=.string (bs t)∧Hid (t=plainL (xs.take k))∧Hid (Kept w wr)) (fun _ i _=>xs.length - (intOf i).toNat)
  case atStart=>exact ⟨0,[],Nat.zero_le _,rfl,rfl,rfl,Kept.refl _⟩
  case round =>
   obtain ⟨k,t,hk,rfl,rfl,HT,HKR⟩:=hrel
   have htl:t.length≤1000000:=by have h:=HPL.out k; rw [← HT.out] at h; omega
   by_cases hlt:k<xs.length
   ·obtain ⟨x,hx⟩:∃ x,xs[k]? = some x:=⟨_,List.getElem?_eq_getElem hlt⟩
    have hfit:=HOK.out x (List.mem_of_getElem? hx)
    have HTK:=Lib.hid (plainL_take hx)
    rw [← HT.out] at HTK
    obtain ⟨g,o,vC,vP,vA,vT,vK,rfl,hgg,hgS,-,-,⟨d0,d1,d2,d3,d4,d5,d6,d7,d8,d9⟩,-,-,-,-,-,hK⟩:=Lns.at_ (HV.out.kept HKR.out) k x hx
    obtain ⟨kind,text,dest,title,id,cls,prs,args,cits,kids⟩:=x
    simp only [Inl.kind,Inl.text,Inl.dest,Inl.title,Inl.id,Inl.cls,Inl.prs,Inl.args,Inl.cits,Inl.kids] at d0 d1 d2 d3 d4 hK hfit
    obtain ⟨f9,f10⟩:=hfit
    have HKK:=Lib.hid hK
    obtain ⟨aK,cK,rfl,lK⟩:=hK.form
    have hpk:plain1 (Inl.mk kind text dest title id cls prs args cits kids)=if kind=1∨kind=4∨kind=5 then text else if kind=2∨kind=3 then [32] else if 6≤kind∧kind≤11 then plainL kids else if kind=16 then dest else []:=plain1_eq _
    rw [hpk] at HTK
    have hnx:=HPL.out (k+1)
    rw [HTK.out,List.length_append] at hnx
    clear hK hx hpk
    by_cases hk1:kind=1
    ·subst hk1
     rw [if_pos (.inl rfl)] at HTK hnx
     obtain ⟨ad,-⟩:=add_bsG (P:=Tryz.prog) t text (t ++ text) 1000000 1000000 rfl htl (by omega) (by omega)
     have adx:=ad wr
     clear ad
     clear hnx HKK HT
     go_wp2_with fail
     go_roundw
     case rel=>exact ⟨k+1,t ++ text,by omega,by go_num,rfl,HTK.out.symm,HKR.out⟩
     case measure=>simp [intOf]; omega
    ·by_cases hk4:kind=4
     ·subst hk4
      rw [if_pos (.inr (.inl rfl))] at HTK hnx
      obtain ⟨ad,-⟩:=add_bsG (P:=Tryz.prog) t text (t ++ text) 1000000 1000000 rfl htl (by omega) (by omega)
      have adx:=ad wr
      clear ad
      clear hnx HKK HT
      go_wp2_with fail
      go_roundw
      case rel=>exact ⟨k+1,t ++ text,by omega,by go_num,rfl,HTK.out.symm,HKR.out⟩
      case measure=>simp [intOf]; omega
     ·by_cases hk5:kind=5
      ·subst hk5
       rw [if_pos (.inr (.inr rfl))] at HTK hnx
       obtain ⟨ad,-⟩:=add_bsG (P:=Tryz.prog) t text (t ++ text) 1000000 1000000 rfl htl (by omega) (by omega)
       have adx:=ad wr
       clear ad
       clear hnx HKK HT
       go_wp2_with fail
       go_roundw
       case rel=>exact ⟨k+1,t ++ text,by omega,by go_num,rfl,HTK.out.symm,HKR.out⟩
       case measure=>simp [intOf]; omega
      ·by_cases hk2:kind=2
       ·subst hk2
        rw [if_neg (by omega),if_pos (by omega)] at HTK hnx
        obtain ⟨ad,-⟩:=add_bsG (P:=Tryz.prog) t [32] (t ++ [32]) 1000000 1000000 rfl htl (by simp) (by omega)
        have adx:=ad wr
        clear ad
        clear hnx HKK HT
        go_wp2_with fail
        go_roundw
        case rel=>exact ⟨k+1,t ++ [32],by omega,by go_num,rfl,HTK.out.symm,HKR.out⟩
        case measure=>simp [intOf]; omega
       ·by_cases hk3:kind=3
        ·subst hk3
         rw [if_neg (by omega),if_pos (by omega)] at HTK hnx
         obtain ⟨ad,-⟩:=add_bsG (P:=Tryz.prog) t [32] (t ++ [32]) 1000000 1000000 rfl htl (by simp) (by omega)
         have adx:=ad wr
         clear ad
         clear hnx HKK HT
         go_wp2_with fail
         go_roundw
         case rel=>exact ⟨k+1,t ++ [32],by omega,by go_num,rfl,HTK.out.symm,HKR.out⟩
         case measure=>simp [intOf]; omega
        ·by_cases hk6:kind=6
         ·subst hk6
          rw [if_neg (by omega),if_neg (by omega),if_pos (by omega)] at HTK hnx
          have HC:=Lib.hid (HIH.out kids (.slice aK kids.length cK) wr HKK.out f9 f10 (by omega))
          obtain ⟨kt,HKT⟩:∃ kt,Hid (plainL kids=kt):=⟨_,rfl⟩
          rw [HKT.out] at HTK hnx HC
          obtain ⟨ad,-⟩:=add_bsG (P:=Tryz.prog) t kt (t ++ kt) 1000000 1000000 rfl htl (by omega) (by omega)
          have HAD:=Lib.hid ad
          clear ad hnx HKK HT
          go_wp2_with fail
          refine HC.out.mono ?_
          rintro e w3 ⟨rfl,hk3⟩
          have adx:=HAD.out w3
          have HK3:=Lib.hid (HKR.out.trans hk3)
          clear hk3 HC d0 d1 d2 d3 d4 d5 d6 d7 d8 d9
          go_wp2_with fail
          go_roundw
          case rel=>exact ⟨k+1,t ++ kt,by omega,by go_num,rfl,HTK.out.symm,HK3.out⟩
          case measure=>simp [intOf]; omega
         ·by_cases hk7:kind=7
          ·subst hk7
           rw [if_neg (by omega),if_neg (by omega),if_pos (by omega)] at HTK hnx
           have HC:=Lib.hid (HIH.out kids (.slice aK kids.length cK) wr HKK.out f9 f10 (by omega))
           obtain ⟨kt,HKT⟩:∃ kt,Hid (plainL kids=kt):=⟨_,rfl⟩
           rw [HKT.out] at HTK hnx HC
           obtain ⟨ad,-⟩:=add_bsG (P:=Tryz.prog) t kt (t ++ kt) 1000000 1000000 rfl htl (by omega) (by omega)
           have HAD:=Lib.hid ad
           clear ad hnx HKK HT
           go_wp2_with fail
           refine HC.out.mono ?_
           rintro e w3 ⟨rfl,hk3⟩
           have adx:=HAD.out w3
           have HK3:=Lib.hid (HKR.out.trans hk3)
           clear hk3 HC d0 d1 d2 d3 d4 d5 d6 d7 d8 d9
           go_wp2_with fail
           go_roundw
           case rel=>exact ⟨k+1,t ++ kt,by omega,by go_num,rfl,HTK.out.symm,HK3.out⟩
           case measure=>simp [intOf]; omega
          ·by_cases hk8:kind=8
           ·subst hk8
            rw [if_neg (by omega),if_neg (by omega),if_pos (by omega)] at HTK hnx
            have HC:=Lib.hid (HIH.out kids (.slice aK kids.length cK) wr HKK.out f9 f10 (by omega))
            obtain ⟨kt,HKT⟩:∃ kt,Hid (plainL kids=kt):=⟨_,rfl⟩
            rw [HKT.out] at HTK hnx HC
            obtain ⟨ad,-⟩:=add_bsG (P:=Tryz.prog) t kt (t ++ kt) 1000000 1000000 rfl htl (by omega) (by omega)
            have HAD:=Lib.hid ad
            clear ad hnx HKK HT
            go_wp2_with fail
            refine HC.out.mono ?_
            rintro e w3 ⟨rfl,hk3⟩
            have adx:=HAD.out w3
            have HK3:=Lib.hid (HKR.out.trans hk3)
            clear hk3 HC d0 d1 d2 d3 d4 d5 d6 d7 d8 d9
            go_wp2_with fail
            go_roundw
            case rel=>exact ⟨k+1,t ++ kt,by omega,by go_num,rfl,HTK.out.symm,HK3.out⟩
            case measure=>simp [intOf]; omega
           ·by_cases hk9:kind=9
            ·subst hk9
             rw [if_neg (by omega),if_neg (by omega),if_pos (by omega)] at HTK hnx
             have HC:=Lib.hid (HIH.out kids (.slice aK kids.length cK) wr HKK.out f9 f10 (by omega))
             obtain ⟨kt,HKT⟩:∃ kt,Hid (plainL kids=kt):=⟨_,rfl⟩
             rw [HKT.out] at HTK hnx HC
             obtain ⟨ad,-⟩:=add_bsG (P:=Tryz.prog) t kt (t ++ kt) 1000000 1000000 rfl htl (by omega) (by omega)
             have HAD:=Lib.hid ad
             clear ad hnx HKK HT
             go_wp2_with fail
             refine HC.out.mono ?_
             rintro e w3 ⟨rfl,hk3⟩
             have adx:=HAD.out w3
             have HK3:=Lib.hid (HKR.out.trans hk3)
             clear hk3 HC d0 d1 d2 d3 d4 d5 d6 d7 d8 d9
             go_wp2_with fail
             go_roundw
             case rel=>exact ⟨k+1,t ++ kt,by omega,by go_num,rfl,HTK.out.symm,HK3.out⟩
             case measure=>simp [intOf]; omega
            ·by_cases hk10:kind=10
             ·subst hk10
              rw [if_neg (by omega),if_neg (by omega),if_pos (by omega)] at HTK hnx
              have HC:=Lib.hid (HIH.out kids (.slice aK kids.length cK) wr HKK.out f9 f10 (by omega))
              obtain ⟨kt,HKT⟩:∃ kt,Hid (plainL kids=kt):=⟨_,rfl⟩
              rw [HKT.out] at HTK hnx HC
              obtain ⟨ad,-⟩:=add_bsG (P:=Tryz.prog) t kt (t ++ kt) 1000000 1000000 rfl htl (by omega) (by omega)
              have HAD:=Lib.hid ad
              clear ad hnx HKK HT
              go_wp2_with fail
              refine HC.out.mono ?_
              rintro e w3 ⟨rfl,hk3⟩
              have adx:=HAD.out w3
              have HK3:=Lib.hid (HKR.out.trans hk3)
              clear hk3 HC d0 d1 d2 d3 d4 d5 d6 d7 d8 d9
              go_wp2_with fail
              go_roundw
              case rel=>exact ⟨k+1,t ++ kt,by omega,by go_num,rfl,HTK.out.symm,HK3.out⟩
              case measure=>simp [intOf]; omega
             ·by_cases hk11:kind=11
              ·subst hk11
               rw [if_neg (by omega),if_neg (by omega),if_pos (by omega)] at HTK hnx
               have HC:=Lib.hid (HIH.out kids (.slice aK kids.length cK) wr HKK.out f9 f10 (by omega))
               obtain ⟨kt,HKT⟩:∃ kt,Hid (plainL kids=kt):=⟨_,rfl⟩
               rw [HKT.out] at HTK hnx HC
               obtain ⟨ad,-⟩:=add_bsG (P:=Tryz.prog) t kt (t ++ kt) 1000000 1000000 rfl htl (by omega) (by omega)
               have HAD:=Lib.hid ad
               clear ad hnx HKK HT
               go_wp2_with fail
               refine HC.out.mono ?_
               rintro e w3 ⟨rfl,hk3⟩
               have adx:=HAD.out w3
               have HK3:=Lib.hid (HKR.out.trans hk3)
               clear hk3 HC d0 d1 d2 d3 d4 d5 d6 d7 d8 d9
               go_wp2_with fail
               go_roundw
               case rel=>exact ⟨k+1,t ++ kt,by omega,by go_num,rfl,HTK.out.symm,HK3.out⟩
               case measure=>simp [intOf]; omega
              ·by_cases hk16:kind=16
               ·subst hk16
                rw [if_neg (by omega),if_neg (by omega),if_neg (by omega),if_pos rfl] at HTK hnx
                obtain ⟨ad,-⟩:=add_bsG (P:=Tryz.prog) t dest (t ++ dest) 1000000 1000000 rfl htl (by omega) (by omega)
                have adx:=ad wr
                clear ad
                clear hnx HKK HT
                go_wp2_with fail
                go_roundw
                case rel=>exact ⟨k+1,t ++ dest,by omega,by go_num,rfl,HTK.out.symm,HKR.out⟩
                case measure=>simp [intOf]; omega
               ·have hb1:(kind == 1)=false:=by rw [beq_eq_false_iff_ne]; exact hk1
                have hb4:(kind == 4)=false:=by rw [beq_eq_false_iff_ne]; exact hk4
                have hb5:(kind == 5)=false:=by rw [beq_eq_false_iff_ne]; exact hk5
                have hb2:(kind == 2)=false:=by rw [beq_eq_false_iff_ne]; exact hk2
                have hb3:(kind == 3)=false:=by rw [beq_eq_false_iff_ne]; exact hk3
                have hb6:(kind == 6)=false:=by rw [beq_eq_false_iff_ne]; exact hk6
                have hb7:(kind == 7)=false:=by rw [beq_eq_false_iff_ne]; exact hk7
                have hb8:(kind == 8)=false:=by rw [beq_eq_false_iff_ne]; exact hk8
                have hb9:(kind == 9)=false:=by rw [beq_eq_false_iff_ne]; exact hk9
                have hb10:(kind == 10)=false:=by rw [beq_eq_false_iff_ne]; exact hk10
                have hb11:(kind == 11)=false:=by rw [beq_eq_false_iff_ne]; exact hk11
                have hb16:(kind == 16)=false:=by rw [beq_eq_false_iff_ne]; exact hk16
                rw [if_neg (by omega),if_neg (by omega),if_neg (by omega),if_neg (by omega),List.append_nil] at HTK
                clear hnx HKK HT
                go_wp2_with fail
                go_roundw
                case rel=>exact ⟨k+1,t,by omega,by go_num,rfl,HTK.out.symm,HKR.out⟩
                case measure=>simp [intOf]; omega
   ·obtain rfl:k=xs.length:=by omega
    obtain rfl:=HFN.out t HT.out
    clear HT HFN
    go_wp2_with fail
    (try go_ret)
    exact ⟨rfl,HKR.out⟩
end Go.Proofs.YtmcoomlkbgiboaaGreatDoor

/- The page's examples of styles, in plain Lean. No condition. -/
set_option linter.all false
namespace Go.Proofs.YtmcoomlkbgiboaaGreatDoor
open Go.RowKit

def ascB (l:Bs):Bool:=l.all fun b=>decide (32≤(b.toNat:Int)) && decide ((b.toNat:Int)<127)
theorem lnB_asc {l:Bs} (h:ascB l=true):lnB l=true:=by
 have:lineB l=true:=line_asc l (fun b hb=>by
  unfold ascB at h
  rw [List.all_eq_true] at h
  have:=h b hb
  simpa using this)
 exact this
theorem splE_asc {t:Bs} (h:ascB t=true):splE t=if (splT t).isSome=true then 0 else 5:=by
 unfold splE; rw [lnB_asc h]; rfl
theorem splE_yes {t:Bs} (h:ascB t=true) (hs:(splT t).isSome=true):splE t=0:=by rw [splE_asc h,hs]; rfl
theorem splL_yes {t:Bs} (h:splE t=0):splL t=(splT t).getD []:=by unfold splL; rw [if_pos h]
theorem num_ent:entE numYE=0:=by
 unfold entE numYE
 rw [entA_cons,if_neg (by decide +kernel),if_neg (by decide +kernel),splE_yes (by decide +kernel) (by decide +kernel),if_neg (by decide),entA_cons,if_neg (by decide +kernel),if_neg (by decide +kernel),splE_yes (by decide +kernel) (by decide +kernel),if_neg (by decide),entA_end,if_pos (by decide +kernel)]
theorem date_ent:entE dateYE=0:=by
 unfold entE dateYE
 rw [entA_cons,if_neg (by decide +kernel),if_neg (by decide +kernel),splE_yes (by decide +kernel) (by decide +kernel),if_neg (by decide),entA_cons,if_neg (by decide +kernel),if_neg (by decide +kernel),splE_yes (by decide +kernel) (by decide +kernel),if_neg (by decide),entA_end,if_pos (by decide +kernel)]
theorem num_cit:citE numY=0:=by
 have h1:splE numY.cite=0:=splE_yes (by decide +kernel) (by decide +kernel)
 have h2:splE numY.bare=0:=splE_yes (by decide +kernel) (by decide +kernel)
 unfold citE
 rw [h1,if_neg (by decide),splL_yes h1,h2,if_neg (by decide +kernel)]
theorem date_cit:citE dateY=0:=by
 have h1:splE dateY.cite=0:=splE_yes (by decide +kernel) (by decide +kernel)
 have h2:splE dateY.bare=0:=splE_yes (by decide +kernel) (by decide +kernel)
 unfold citE
 rw [h1,if_neg (by decide),splL_yes h1,h2,if_neg (by decide +kernel)]
theorem date_srt:srtE dateY.sort=0:=by decide +kernel
theorem num_sty:styE numY=0:=by
 unfold styE
 have h1:lnB numY.between=true:=lnB_asc (by decide +kernel)
 have h2:lnB numY.begin_=true:=lnB_asc (by decide +kernel)
 have h3:lnB numY.end_=true:=lnB_asc (by decide +kernel)
 have h4:entE numY.entries=0:=num_ent
 rw [if_neg (by decide),if_neg (by decide +kernel),if_neg (by decide),num_cit,if_neg (by decide),h1,h2,h3,if_neg (by decide),if_neg (by decide),h4]
theorem date_sty:styE dateY=0:=by
 unfold styE
 have h1:lnB dateY.between=true:=lnB_asc (by decide +kernel)
 have h2:lnB dateY.begin_=true:=lnB_asc (by decide +kernel)
 have h3:lnB dateY.end_=true:=lnB_asc (by decide +kernel)
 have h4:entE dateY.entries=0:=date_ent
 rw [if_neg (by decide),if_neg (by decide +kernel),date_srt,if_neg (by decide),date_cit,if_neg (by decide),h1,h2,h3,if_neg (by decide),if_neg (by decide),h4]
theorem blt_num:bltY [110,117,109,101,114,105,99]=some numY:=by
 unfold bltY
 rw [if_neg (by decide),if_pos (by rfl)]
theorem blt_date:bltY [97,117,116,104,111,114,45,100,97,116,101]=some dateY:=by
 unfold bltY
 rw [if_pos (by rfl)]
end Go.Proofs.YtmcoomlkbgiboaaGreatDoor

/- Plain: the examples of law32. No condition. -/
set_option linter.all false
namespace Go.Proofs.YtmcoomlkbgiboaaGreatDoor
open Go.RowKit

def kBook:Bs:=[98,111,111,107]
def srcW (key fam yr:Bs):SrcT:=⟨key,kBook,[(fam,[],[],[])],[],[([116,105,116,108,101],[84]),([121,101,97,114],yr)]⟩
def kEn:Bs:=[101,110]
def srA:SrcT:=srcW [97] [78,103] [50,48,48,49]
def srB:SrcT:=srcW [98] [78,103] [50,48,48,49]
theorem spl_date:splL dateY.cite=(splT dateY.cite).getD []:=splL_yes (splE_yes (by decide +kernel) (by decide +kernel))
theorem spl_num:splL numY.cite=(splT numY.cite).getD []:=splL_yes (splE_yes (by decide +kernel) (by decide +kernel))
theorem awk_suf:sufN ([srA,srB].map (citX dateY kEn))=[1,2]:=by
 unfold citX citS fillS
 rw [spl_date]
 decide +kernel
theorem awk_ct:ctB numY kEn srA 1 [44,32,112,46,32,51]=[91,49,44,32,112,46,32,51,93]:=by
 unfold ctB fillS
 rw [spl_num]
 decide +kernel
theorem awk_fl:fillS (filT srA numY kEn [] 1) numY.cite=[49]:=by
 unfold fillS
 rw [spl_num]
 decide +kernel
theorem awk_ck:checkE [srA,srB]=0:=by decide +kernel
theorem awk_find:findS [srA,srB] [97]=some srA:=by decide +kernel
theorem awk_fitA:FitL srA:=by unfold FitL; decide +kernel
theorem awk_fitB:FitL srB:=by unfold FitL; decide +kernel
end Go.Proofs.YtmcoomlkbgiboaaGreatDoor
