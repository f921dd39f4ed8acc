/- (*filler).blocks at one paragraph that holds one citation. Conditions: lengths, the listed variables. -/
import Derived.Test.YtmcoomlkbgiboaaGreatDoorU38
import Derived.Test.YtmcoomlkbgiboaaGreatDoorU40
import Derived.Test.YtmcoomlkbgiboaaGreatDoorU07
import Derived.Test.YtmcoomlkbgiboaaGreatDoorU04
import Derived.Test.YtmcoomlkbgiboaaGreatDoorU02
import Derived.Test.YtmcoomlkbgiboaaGreatDoorU32
import Derived.Test.YtmcoomlkbgiboaaGreatDoorU26
import Derived.Test.YtmcoomlkbgiboaaGreatDoorU11
import Derived.Test.YtmcoomlkbgiboaaGreatDoorU18
import Derived.Test.YtmcoomlkbgiboaaGreatDoorU17
import Derived.Test.YtmcoomlkbgiboaaGreatDoorU30
import Derived.Test.YtmcoomlkbgiboaaGreatDoorU31
import Derived.Test.YtmcoomlkbgiboaaGreatDoorU36
import Derived.Laws.StructEq
set_option linter.all false
set_option maxRecDepth 100000
set_option maxHeartbeats 25600000
namespace Go.Proofs.YtmcoomlkbgiboaaGreatDoor
open Go.RowKit
theorem Tryz.infoBl9:(Tryz.prog.info? 59).map (fun i=>(i.zero,i.size,i.bytes))=some (some (.agg #[.int .i64 0,.int .i64 0,.string ⟨#[]⟩,.string ⟨#[]⟩,.string ⟨#[]⟩,.string ⟨#[]⟩,.string ⟨#[]⟩,.slice none 0 0,.slice none 0 0,.slice none 0 0,.slice none 0 0]),11,192):=by kernel_rfl
theorem zwN (vF:Value) (a:Option Addr) (c:Nat) (w:World):Calls Tryz.prog 73 #[vF,.slice a 0 c] w fun e w'=>e=.returned (.slice none 0 0)/\w'=w:=by
 go_enter Tryz.func73,Tryz.ntmps73;go_wp2_with fail;go_loopw [5,10] (fun o i wr=>o=.slice none 0 0/\i=.int .i64 0/\w=wr) (fun _ _ _=>1)
 case atStart=>exact ⟨rfl,rfl,rfl⟩
 case round =>
  obtain ⟨rfl,rfl,rfl⟩:=hrel;go_wp2_with fail
  (try go_ret)
  exact ⟨rfl,rfl⟩
theorem zAu (s:Bs):zaX [txI s]=txB s:=zjL rfl
theorem OutG.noA {α:Type} {R:(Nat->Prop)->World->List Value->α->Prop} {k:Nat} {A A':Nat->Prop} {base:Nat} {e:TypeId} {w:World} {v:Value} (h:OutG R k A base e w v []):OutG R k A' base e w v []:=by
 obtain ⟨css,h1,h2,h3,h4⟩:=h;exact ⟨css,h1,h2,h3,fun j cs x hc hx=>by simp at hx⟩
def LnOk (xs:List Inl) (tx:Bs):Prop:=zaX xs=txB tx/\xs.length<=1/\∀ x∈xs,x.kids=[]
theorem Lns.flat {S:Nat->Prop} {w:World} {v:Value} {xs:List Inl} (h:Lns S 1 w v xs):∀ x∈xs,x.kids=[]:=fun x hx=>by
 obtain ⟨a,c,rfl,hc⟩:=h.form;obtain ⟨j,hj⟩:=List.getElem?_of_mem hx;obtain ⟨_,_,_,_,_,_,_,_,_,_,_,_,_,_,_,_,_,_,hk⟩:=Lns.at_ h j x hj;exact hk.no
def BkP (tx:Bs) (w:World) (e:Ending) (w':World):Prop:=∃ v' b,e=.returned v'/\Bls (fun g=>w.heap.size<=g) 2 1 w' v' [b]/\LnOk b.line tx/\Kept w w'
theorem zwO {S:Nat->Prop} (F M N:Nat) (es:List (Bs × Value)) (vY vEn vA vE vF v:Value) (s:SrcT) (y:StyT) (lang key r info text dest title id itext idest ititle iid:Bs) (level:Int) (cls icls iargs:List Bs) (prs iprs:List Pr) (ikids:List Inl) (n:Int) (w:World) (hen:EnvC w) (hf:Blk w F 136 (flC vY y lang vEn M)) (hm:MapT w M es) (hg:zdV es key=some (enV s [] n vA vE vF)) (hY:vY.oneCell'=true) (hy:SmallY y) (hym : -9223372036854775808<=y.most/\y.most<=9223372036854775807) (hn : -9223372036854775808<=n/\n<=9223372036854775807)
  (hA:Perss w vA s.author) (hE:Perss w vE s.editor) (hF:Prs w vF s.fields) (hft:FitL s) (hr:r.length<=1000) (hfl:(zdD (zkX s y lang [] n) y.cite).length<=100000000) (htx:(txB (ctB y lang s n (44 :: r))).length<=1000000)
  (hc1:cls.length<=1000000) (hp1:prs.length<=1000000)
  (hT:Bls S (N+1) 1 w v [.mk 1 level info text dest title id cls prs [.mk 13 itext idest ititle iid icls iprs iargs [⟨key,[],44 :: r,false⟩] ikids] []]) :
  Calls Tryz.prog 73 #[.pointer (some ⟨F,0,none⟩),v] w (BkP (ctB y lang s n (44 :: r)) w):=by
 obtain ⟨i0,hi,hz0,hz1,hz2⟩:=info_parts Tryz.infoBl9;obtain ⟨a,c,rfl,hc⟩:=hT.form;have HV:=Hd hT;have HLN:=Hd (fun w' (k:Kept w w') vL (h:Lns S (N+1) w' vL [.mk 13 itext idest ititle iid icls iprs iargs [⟨key,[],44 :: r,false⟩] ikids])=>zwL F M N es vY vEn vA vE vF vL s y lang key r itext idest ititle iid icls iargs iprs ikids n w' (hen.kept k) (hf.kept k) (hm.kept k) hg hY hy hym hn (hA.kept k) (hE.kept k) (hF.kept k) hft hr hfl h);have HFIN:Hid (∀ v' b w',OutG (BloK 2 0) 11 (fun g=>w.heap.size<=g) w.heap.size 59 w' v' [b]->LnOk b.line (ctB y lang s n (44 :: r))->Kept w w'->BkP (ctB y lang s n (44 :: r)) w (.returned v') w'):=fun v' b w' h h2 k=>⟨v',b,rfl,OutG.row (S:=fun g=>w.heap.size<=g) (zAO 2 0) h (fun _ _ q=>q) (fun g h=>h),h2,k⟩;generalize BkP (ctB y lang s n (44 :: r)) w=P at *;obtain ⟨tx,HTX⟩:∃ tx,Hid (ctB y lang s n (44 :: r)=tx):=⟨_,rfl⟩;rw[HTX.out] at HLN HFIN htx;have hokT:zAo [txI tx]:=⟨⟨⟨htx,by simp,by simp,by simp,by simp,by simp,by simp,by simp,by simp⟩,trivial⟩,trivial⟩;have HMG:=Hd (fun S' w' vL (h:Lns S' 1 w' vL [txI tx])=>zCq 1 [txI tx] vL w' h (by simp) hokT);unfold MgQ at HMG;have HCAT:=Hd (fun vC vP w' h1 h2=>zAt id vC vP cls prs w' h1 h2 (by omega) (by omega));unfold CatP at HCAT;have HNIL:=Hd (fun aK cK w'=>zwN (.pointer (some ⟨F,0,none⟩)) aK cK w');have hrow:([Blo.mk 1 level info text dest title id cls prs [.mk 13 itext idest ititle iid icls iprs iargs [⟨key,[],44 :: r,false⟩] ikids] []]:List Blo).length=1:=rfl;rw[hrow] at hc HV ⊢;clear hT hen hf hm hg hA hE hF hft hfl hrow hokT HTX;go_enter Tryz.func73,Tryz.ntmps73;go_wp2_with fail;go_loopw [5,10] (fun v i wr=>∃ (k:Nat) (ys:List Blo),k<=1/\i=.int .i64 k/\Hid (ys.length=k/\∀ b∈ys,LnOk b.line tx)/\Hid (OutG (BloK 2 0) 11 (fun g=>w.heap.size<=g) w.heap.size 59 wr v ys)/\Hid (Kept w wr)) (fun _ i _=>1 - (intOf i).toNat)
 case atStart=>exact ⟨0,[],Nat.zero_le _,rfl,⟨rfl,by simp⟩,OutG.nil _ _ _ _ _ _,Kept.refl _⟩
 case round =>
  obtain ⟨k,ys,hk,rfl,HYS,HGR,HKR⟩:=hrel;by_cases hlt:k<1
  ·obtain rfl:k=0:=(by omega);obtain rfl:ys=[]:=List.length_eq_zero_iff.1 HYS.out.1;obtain ⟨ar,cr,rfl,hcr,hmr⟩:=HGR.out.form;obtain ⟨g,o,vC,vP,vL,vK,rfl,hgg,hgS,-,-,⟨e0,e1,e2,e3,e4,e5,e6,e7,e8,e9,e10⟩,-,⟨hC,iC⟩,⟨hPP,iP⟩,hL,hK⟩:=Bls.at_ HV.out 0 _ rfl;simp only[Blo.kind,Blo.level,Blo.info,Blo.text,Blo.dest,Blo.title,Blo.id,Blo.cls,Blo.prs,Blo.line,Blo.kids,Nat.zero_mul,Nat.zero_add,Nat.add_zero] at e0 e1 e2 e3 e4 e5 e6 e7 e8 e9 e10 hC hPP hL hK;have d0:=(HKR.out.cell (p:=⟨g,o,none⟩) hgg).trans e0;have d1:=(HKR.out.cell (p:=⟨g,o+1,none⟩) hgg).trans e1;have d2:=(HKR.out.cell (p:=⟨g,o+2,none⟩) hgg).trans e2;have d3:=(HKR.out.cell (p:=⟨g,o+3,none⟩) hgg).trans e3;have d4:=(HKR.out.cell (p:=⟨g,o+4,none⟩) hgg).trans e4;have d5:=(HKR.out.cell (p:=⟨g,o+5,none⟩) hgg).trans e5;have d6:=(HKR.out.cell (p:=⟨g,o+6,none⟩) hgg).trans e6;have d7:=(HKR.out.cell (p:=⟨g,o+7,none⟩) hgg).trans e7;have d8:=(HKR.out.cell (p:=⟨g,o+8,none⟩) hgg).trans e8;have d9:=(HKR.out.cell (p:=⟨g,o+9,none⟩) hgg).trans e9;have d10:=(HKR.out.cell (p:=⟨g,o+10,none⟩) hgg).trans e10;have hgz:g<wr.heap.size:=Nat.lt_of_lt_of_le hgg HKR.out.size;obtain ⟨aC,cC,rfl,lC⟩:=hC.shape;obtain ⟨aP,cP,rfl,lP⟩:=hPP.shape;obtain ⟨aL,cL,rfl,lL⟩:=hL.form;obtain ⟨aK,cK,hvK,lK⟩:=hK.form;have hvK':vK=.slice aK 0 cK:=hvK;subst hvK';have HC:=Hd hC;have HPP:=Hd hPP;have HL:=Hd hL;have hB0:=Blk.new wr 59 #[.int .i64 1,.int .i64 level,.string (bs info),.string (bs text),.string (bs dest),.string (bs title),.string (bs id),.slice aC cls.length cC,.slice aP prs.length cP,.slice aL 1 cL,.slice aK 0 cK];have HKA:=Hd (zaA wr (.cells #[.int .i64 1,.int .i64 level,.string (bs info),.string (bs text),.string (bs dest),.string (bs title),.string (bs id),.slice aC cls.length cC,.slice aP prs.length cP,.slice aL 1 cL,.slice aK 0 cK] 59));obtain ⟨I,HIE⟩:∃ I,Hid (wr.heap.size=I):=⟨_,rfl⟩;rw[HIE.out] at hB0;have HB0:=Hd hB0;have hwI:w.heap.size<=I:=(by rw[<- HIE.out];exact HKR.out.size);have HK1:=Hd (HKR.out.trans HKA.out);have HG1:=Hd ((OutG.noA (A':=fun _=>False) HGR.out).kept (zAO 2 0) HKA.out);have HRI:Hid (∀ g,(Value.slice ar ([]:List Blo).length cr).ownBlock=some g->g<I):=fun g q=>(by have:=(HGR.out.blk g q).2;rw[<- HIE.out];exact this);clear hB0 hC hPP hL hK iC iP HGR e0 e1 e2 e3 e4 e5 e6 e7 e8 e9 e10;go_upto_region 7 with fail;rw[HIE.out];have b7:=HB0.out.cell 7 _ rfl;generalize wr.alloc _=w1 at *;clear d0 d1 d2 d3 d4 d5 d6 d7 d8 d9 d10 HKA HIE hgz b7;have hI1:I<w1.heap.size:=HB0.out.lt;have c6:=HB0.out.cell 6 _ rfl;have c7:=HB0.out.cell 7 _ rfl;have c8:=HB0.out.cell 8 _ rfl;have cz:=HB0.out.lt;go_wp2_with fail;refine (HCAT.out _ _ w1 (HC.out.kept HK1.out) (HPP.out.kept HK1.out)).mono ?_;rintro e w2 ⟨vC1,vP1,rfl,⟨hc2,ic2⟩,⟨hp2,ip2⟩,hk2⟩;obtain ⟨aC1,cC1,rfl,lC1⟩:=hc2.shape;obtain ⟨aP1,cP1,rfl,lP1⟩:=hp2.shape;have HC2:=Hd hc2;have HP2:=Hd hp2;have HIC:Hid (InB (fun g=>I<g) (.slice aC1 cls.length cC1) cls.length):=ic2.mono (fun g _ _ q=>by omega);have HIP:Hid (InB (fun g=>I<g) (.slice aP1 prs.length cP1) prs.length):=ip2.mono (fun g _ _ q=>by omega);have HB2:=Hd (HB0.out.kept hk2);have HK2:=Hd (HK1.out.trans hk2);have HG2:=Hd (HG1.out.kept (zAO 2 0) hk2);clear hc2 hp2 ic2 ip2 hk2 HB0 HK1 HG1 HCAT HC HPP c6 c7 c8 cz hI1;go_wp2_with (refine zdI rfl 56 (.tmp 29) (.tmp 28) (by rfl) I 6 59 _ #[.string (bs id),.slice aC1 cls.length cC1,.slice aP1 prs.length cP1] (by rfl) (by rfl) HB2.out (by show 6+3<=11;omega) Tryz.sizeAt (by simp only[List.all_toArray,List.all_cons,List.all_nil];rfl) ?_;intro w3 hb3 ho3;refine zjE ?_);refine Hd ?_;have HB3:Hid (Blk w3 I 59 #[.int .i64 1,.int .i64 level,.string (bs info),.string (bs text),.string (bs dest),.string (bs title),.string (bs id),.slice aC1 cls.length cC1,.slice aP1 prs.length cP1,.slice aL 1 cL,.slice aK 0 cK]):=hb3;have HK3:=Hd (HK2.out.trans' (ho3.below HK2.out.size (fun i e=>by rw[e];exact hwI)));have HC3:=Hd (HC2.out.onlS HIC.out ho3 (fun g _ hs q=>by omega));have HP3:=Hd (HP2.out.onlS HIP.out ho3 (fun g _ hs q=>by omega));have HG3:=Hd (HG2.out.only (zAO 2 0) ho3 (fun g _ q=>q.elim) (fun g q e=>by have:=HRI.out g q;omega));clear hb3 ho3 HB2 HK2 HC2 HP2 HG2;have c9:=HB3.out.cell 9 _ rfl;have cz:=HB3.out.lt;go_wp2_with fail;refine (HLN.out w3 HK3.out (.slice aL 1 cL) (HL.out.kept HK3.out)).mono ?_;rintro e w4 ⟨v4,rfl,hl4,hk4⟩;have HL4:=Hd hl4;have HB4:=Hd (HB3.out.kept hk4);have HK4:=Hd (HK3.out.trans hk4);have HC4:=Hd (HC3.out.kept hk4);have HP4:=Hd (HP3.out.kept hk4);have HG4:=Hd (HG3.out.kept (zAO 2 0) hk4);clear hl4 hk4 HB3 HK3 HC3 HP3 HG3 HLN HL c9 cz;go_wp2_with fail;refine (HMG.out _ w4 v4 HL4.out).mono ?_;rintro e w5 ⟨v5,zs,rfl,hl5,hzn,hpl,hk5⟩;obtain ⟨aL1,cL1,rfl,lL1⟩:=hl5.form;have HPL:Hid (LnOk zs tx):=⟨by rw[hpl,zAu],hzn,hl5.flat⟩;clear hzn;have hI4:=HB4.out.lt;have HL5:Hid (Lns (fun g=>I<g) 1 w5 (.slice aL1 zs.length cL1) zs):=hl5.mono (fun g _ q=>by omega);have hb5:=HB4.out.kept hk5;have c9:=hb5.cell 9 _ rfl;have f9:=hb5.free 9;have z9:=hb5.lt;have ho6:=Only.setCell (w:=w5) I 9 (.slice aL1 zs.length cL1);have HB6:Hid (Blk (w5.setCell ⟨I,9,none⟩ (.slice aL1 zs.length cL1)) I 59 #[.int .i64 1,.int .i64 level,.string (bs info),.string (bs text),.string (bs dest),.string (bs title),.string (bs id),.slice aC1 cls.length cC1,.slice aP1 prs.length cP1,.slice aL1 zs.length cL1,.slice aK 0 cK]):=hb5.set 9 _;have c10:(w5.setCell ⟨I,9,none⟩ (.slice aL1 zs.length cL1)).cell? ⟨I,10,none⟩=some (.slice aK 0 cK):=HB6.out.cell 10 _ rfl;have HK6:=Hd ((HK4.out.trans hk5).trans' (ho6.below (HK4.out.trans hk5).size (fun i e=>by rw[e];exact hwI)));have HC6:=Hd ((HC4.out.kept hk5).onlS HIC.out ho6 (fun g _ hs q=>by omega));have HP6:=Hd ((HP4.out.kept hk5).onlS HIP.out ho6 (fun g _ hs q=>by omega));have HL6:=Hd (HL5.out.sam (S':=fun g=>I<g) (Sam.only ho6 (fun g _ hs q=>by omega)) (fun _ _ q=>q));have HG6:=Hd ((HG4.out.kept (zAO 2 0) hk5).only (zAO 2 0) ho6 (fun g _ q=>q.elim) (fun g q e=>by have:=HRI.out g q;omega));clear hl5 hpl hk5 hb5 ho6 HB4 HK4 HC4 HP4 HG4 HL5 HL4 HMG hI4;go_wp2_with fail;generalize World.setCell _ _ _=w6 at *;clear c9 f9 z9;refine (HNIL.out aK cK w6).mono ?_;rintro e w7 ⟨rfl,rfl⟩;have f10:=HB6.out.free 10;have z10:=HB6.out.lt;have ho8:=Only.setCell (w:=w7) I 10 (.slice none 0 0);have HB8:Hid (Blk (w7.setCell ⟨I,10,none⟩ (.slice none 0 0)) I 59 #[.int .i64 1,.int .i64 level,.string (bs info),.string (bs text),.string (bs dest),.string (bs title),.string (bs id),.slice aC1 cls.length cC1,.slice aP1 prs.length cP1,.slice aL1 zs.length cL1,.slice none 0 0]):=HB6.out.set 10 _;have HK8:=Hd (HK6.out.trans' (ho8.below HK6.out.size (fun i e=>by rw[e];exact hwI)));have HC8:=Hd (HC6.out.onlS HIC.out ho8 (fun g _ hs q=>by omega));have HP8:=Hd (HP6.out.onlS HIP.out ho8 (fun g _ hs q=>by omega));have HL8:=Hd (HL6.out.sam (S':=fun g=>I<g) (Sam.only ho8 (fun g _ hs q=>by omega)) (fun _ _ q=>q));have HG8:=Hd (HG6.out.only (zAO 2 0) ho8 (fun g _ q=>q.elim) (fun g q e=>by have:=HRI.out g q;omega));clear ho8 HB6 HK6 HC6 HP6 HL6 HG6 HNIL;go_upto_region 10 with fail;generalize World.setCell _ _ _=w8 at *;clear c10 f10 z10;have e0:=HB8.out.cell 0 _ rfl;have e1:=HB8.out.cell 1 _ rfl;have e2:=HB8.out.cell 2 _ rfl;have e3:=HB8.out.cell 3 _ rfl;have e4:=HB8.out.cell 4 _ rfl;have e5:=HB8.out.cell 5 _ rfl;have e6:=HB8.out.cell 6 _ rfl;have e7:=HB8.out.cell 7 _ rfl;have e8:=HB8.out.cell 8 _ rfl;have e9:=HB8.out.cell 9 _ rfl;have e10:=HB8.out.cell 10 _ rfl;have ez:=HB8.out.lt;have hka:=zaA w8 (.cells #[.int .i64 1,.int .i64 level,.string (bs info),.string (bs text),.string (bs dest),.string (bs title),.string (bs id),.slice aC1 cls.length cC1,.slice aP1 prs.length cP1,.slice aL1 zs.length cL1,.slice none 0 0] 59);have HROW:=Hd (Blk.new w8 59 #[.int .i64 1,.int .i64 level,.string (bs info),.string (bs text),.string (bs dest),.string (bs title),.string (bs id),.slice aC1 cls.length cC1,.slice aP1 prs.length cP1,.slice aL1 zs.length cL1,.slice none 0 0]);have HGA:=Hd ((OutG.noA (A':=fun g=>w.heap.size<=g) HG8.out).kept (zAO 2 0) hka);have HKA:=Hd (HK8.out.trans hka);have hba:w.heap.size<=(w8.alloc (.cells #[.int .i64 1,.int .i64 level,.string (bs info),.string (bs text),.string (bs dest),.string (bs title),.string (bs id),.slice aC1 cls.length cC1,.slice aP1 prs.length cP1,.slice aL1 zs.length cL1,.slice none 0 0] 59)).heap.size:=HKA.out.size;have hne:∀ g,I<g->w.heap.size<=g/\(Value.slice ar ([]:List Blo).length cr).ownBlock≠some g:=fun g hg=>⟨by omega,fun q=>by have:=HRI.out g q;omega⟩;have HYY:Hid (BloK 2 0 (fun g=>w.heap.size<=g/\(Value.slice ar ([]:List Blo).length cr).ownBlock≠some g) (w8.alloc (.cells #[.int .i64 1,.int .i64 level,.string (bs info),.string (bs text),.string (bs dest),.string (bs title),.string (bs id),.slice aC1 cls.length cC1,.slice aP1 prs.length cP1,.slice aL1 zs.length cL1,.slice none 0 0] 59)) [.int .i64 1,.int .i64 level,.string (bs info),.string (bs text),.string (bs dest),.string (bs title),.string (bs id),.slice aC1 cls.length cC1,.slice aP1 prs.length cP1,.slice aL1 zs.length cL1,.slice none 0 0] (.mk 1 level info text dest title id cls prs zs [])) :=
    ⟨_,_,_,_,rfl,⟨HC8.out.kept hka,HIC.out.mono fun g _ _ q=>hne g q⟩,⟨HP8.out.kept hka,HIP.out.mono fun g _ _ q=>hne g q⟩,(HL8.out.ups (by omega)).sam (S':=fun g=>w.heap.size<=g/\(Value.slice ar ([]:List Blo).length cr).ownBlock≠some g) (Sam.kept hka) (fun g _ q=>hne g q),Bls.none_ _ _ _ _⟩
   clear hka HG8 HK8 HC8 HP8 HL8 HIC HIP hne HB8;go_wp2_with (at_builtin;refine zjE ?_);refine Hd ?_;refine zaQ (zAO 2 0) rfl (.tmp 41) (.tmp 43) 23 rfl i0 _ 192 Tryz.underlying23 hi hz0 hz1 hz2 rfl (by omega) (by rfl) HGA.out w8.heap.size _ _ (by rfl) (fun j u hu=>HROW.out.cell j u (by rw[<- Array.getElem?_toList];exact hu)) rfl HYY.out (by simp;unfold maxLen;omega) (by simp) hba _ rfl ?_;intro g7 c7' w9 hout7 hgrow7 hat7 hlt7;have HO9:=Hd hout7;have HK9:Hid (Kept w w9):=HKA.out.trans' ((Only.grown hgrow7).below HKA.out.size (fun i q=>(HGA.out.blk i q.symm).1));clear hout7 hgrow7 hat7 hlt7 HROW HGA HKA hba HYY e0 e1 e2 e3 e4 e5 e6 e7 e8 e9 e10 ez;go_wp2_with fail;go_roundw
   case rel=>exact ⟨0+1,_,by omega,by go_num,⟨rfl,fun b hb=>by rcases List.mem_singleton.1 hb with rfl;exact HPL.out⟩,HO9.out,HK9.out⟩
   case measure=>simp [intOf]
  ·obtain rfl:k=1:=(by omega);obtain ⟨b,rfl⟩:∃ b,ys=[b]:=by
    cases ys with
    | nil=>have:=HYS.out.1;simp at this
    | cons b l =>
     have h:=HYS.out.1;cases l with
     | nil=>exact ⟨b,rfl⟩
     | cons _ _=>simp at h
   have HF:=Hd (HFIN.out _ b wr HGR.out (HYS.out.2 b (by simp)) HKR.out);obtain ⟨ar,cr,rfl,hcr,hmr⟩:=HGR.out.form;clear HGR HFIN HYS;go_wp2_with fail
   (try go_ret)
   exact HF.out
abbrev KyP:=Bs × Bs
def kyP (k:KyP):Value:=.agg #[.string (bs k.1),.string (bs k.2)]
def zrY (e:KyP × Value) (i:Nat):MapEntry:={ key:=kyP e.1,val:=e.2,born:=i }
def zdA (es:List (KyP × Value)):Array MapEntry:=(es.mapIdx fun i e=>zrY e i).toArray
def MapQ (w:World) (m:Nat) (es:List (KyP × Value)):Prop:=w.heap[m]? = some (.map (zdA es) es.length)
def zm5 (w:World) (m:Nat) (es:List (KyP × Value)):World:={ w with heap:=w.heap.setIfInBounds m (.map (zdA es) es.length) }
def zjM (es:List (KyP × Value)) (k:KyP):Option Value:=(es.find? fun e=>e.1 == k).map (·.2)
theorem MapQ.lt {w:World} {m:Nat} {es:List (KyP × Value)} (h:MapQ w m es):m<w.heap.size:=by
 rcases Nat.lt_or_ge m w.heap.size with q|q
 ·exact q
 ·unfold MapQ at h;rw[Array.getElem?_eq_none q] at h;cases h
theorem MapQ.only {S:Nat->Prop} {w w':World} {m:Nat} {es:List (KyP × Value)} (h:MapQ w m es) (k:Only S w w') (hs:¬ S m):MapQ w' m es:=by
 unfold MapQ at h ⊢;rw[k.block m (MapQ.lt h) hs];exact h
theorem MapQ.kept {w w':World} {m:Nat} {es:List (KyP × Value)} (h:MapQ w m es) (k:Kept w w'):MapQ w' m es:=h.only (Only.of_kept (S:=fun _=>False) k) (fun q=>q)
theorem MapQ.made (w:World):MapQ (w.alloc (.map #[] 0)) w.heap.size []:=heap_alloc_new w _
theorem zpL (w:World) (m:Nat) (es:List (KyP × Value)) (hm:m<w.heap.size):MapQ (zm5 w m es) m es:=by
 unfold MapQ zm5;simp [hm]
theorem zrZ (w:World) (m:Nat) (es:List (KyP × Value)):Only (fun i=>i=m) w (zm5 w m es) :=
 ⟨rfl,rfl,rfl,by simp [zm5],fun k hk hs=>by simp [zm5,Array.getElem?_setIfInBounds,Ne.symm hs]⟩
theorem zAv (w:World) (m:Nat) (es:List (KyP × Value)):(zm5 w m es).heap.size=w.heap.size:=by simp [zm5]
theorem zwP (es:List (KyP × Value)) (e:KyP × Value):zdA (es ++ [e])=(zdA es).push (zrY e es.length):=by
 unfold zdA;rw[List.mapIdx_append];simp
theorem zwQ (es:List (KyP × Value)):(zdA es).toList=es.mapIdx fun i e=>zrY e (i+0):=by simp [zdA]
theorem zdB (e:KyP × Value) (es:List (KyP × Value)) (k:KyP):zjM (e :: es) k=if e.1=k then some e.2 else zjM es k:=by
 unfold zjM;rw[List.find?_cons];by_cases h:e.1=k
 ·rw[if_pos h];simp [h]
 ·rw[if_neg h];have:(e.1 == k)=false:=(by simpa using h);rw[this]
theorem zr0 {es:List (KyP × Value)} {k:KyP} (h:zjM es k=none) (v:Value) (k':KyP):zjM (es ++ [(k,v)]) k'=if k'=k then some v else zjM es k':=by
 induction es with
 | nil =>
  rw[List.nil_append,zdB];by_cases q:k'=k
  ·rw[if_pos q,if_pos q.symm]
  ·rw[if_neg q,if_neg (fun e=>q e.symm)]
 | cons e es ih =>
  rw[zdB] at h;by_cases q:e.1=k
  ·rw[if_pos q] at h;cases h
  ·rw[if_neg q] at h;rw[List.cons_append,zdB,zdB,ih h];by_cases q2:e.1=k'
   ·rw[if_pos q2,if_pos q2,if_neg (fun e'=>q (by rw[q2,e']))]
   ·rw[if_neg q2,if_neg q2]
section
variable {P:Program} {tm ti te:TypeId} {fs:Array Field}
theorem zEK (heq:∀ (a b:KyP) (w:World),(Op.equal ti (kyP a) (kyP b)).run P w=.ok (a == b) w) (w:World) (k:KyP):∀ (l:List (KyP × Value)) (i j:Nat),
  (zjM l k=none/\(Instr.findAsking ti (kyP k) (l.mapIdx fun i' e=>zrY e (i'+i)) j).run P w=.ok none w) \/
  (∃ (n:Nat) (v:Value),zjM l k=some v/\l[n]? = some (k,v)/\(Instr.findAsking ti (kyP k) (l.mapIdx fun i' e=>zrY e (i'+i)) j).run P w=.ok (some (n+j,v)) w/\∀ u k',zjM (l.set n (k,u)) k'=if k'=k then some u else zjM l k')
 | [],_,_=>.inl ⟨rfl,by simp [Instr.findAsking,Sem.run_pure]⟩
 | e :: l,i,j=>by
  rw[List.mapIdx_cons,zdB];by_cases h:e.1=k
  ·right;have hx:(k == e.1)=true:=(by rw[beq_iff_eq];exact h.symm);refine ⟨0,e.2,by rw[if_pos h],by rw[<- h];rfl,?_,fun u k'=>?_⟩
   ·simp [Instr.findAsking,zrY,heq,hx,Sem.run_pure]
   ·rw[List.set_cons_zero,zdB,zdB];by_cases q:k'=k
    ·rw[if_pos q,if_pos q.symm]
    ·rw[if_neg q,if_neg (fun e=>q e.symm),if_neg (fun e'=>q (by rw[<- e',h]))]
  ·have hx:(k == e.1)=false:=(by rw[beq_eq_false_iff_ne];exact fun q=>h q.symm);have hm:(l.mapIdx fun i' x=>zrY x (i'+1+i))=l.mapIdx fun i' x=>zrY x (i'+(i+1)):=by
    congr 1;funext a b;congr 1;omega
   rw[if_neg h,hm];have hstep:∀ es,(Instr.findAsking ti (kyP k) (zrY e (0+i) :: es) j).run P w=(Instr.findAsking ti (kyP k) es (j+1)).run P w:=fun es=>by
    simp [Instr.findAsking,zrY,heq,hx]
   rw[hstep];rcases zEK heq w k l (i+1) (j+1) with ⟨g1,g2⟩|⟨n,v,g1,g2,g3,g4⟩
   ·left;exact ⟨g1,g2⟩
   ·right;refine ⟨n+1,v,g1,by simpa using g2,by rw[g3];congr 3;omega,fun u k'=>?_⟩;rw[List.set_cons_succ,zdB,zdB,g4];by_cases q:e.1=k'
    ·rw[if_pos q,if_pos q,if_neg (fun e'=>h (by rw[q,e']))]
    ·rw[if_neg q,if_neg q]
structure KeyP (P:Program) (tm ti te:TypeId) (fs:Array Field):Prop where
 map:P.underlying tm=some (.map ti te)
 str:P.underlying ti=some (.struct fs)
 eq:∀ (a b:KyP) (w:World),(Op.equal ti (kyP a) (kyP b)).run P w=.ok (a == b) w
 chk:∀ (e:Bool) (a:KyP) (w:World),(Instr.checkKey e 10000 ti (kyP a)).run P w=.ok () w
 stay:∀ (a:KyP) (w:World),(Instr.keyThatStays (kyP a) (kyP a)).run P w=.ok (kyP a) w
theorem zFw (H:KeyP P tm ti te fs) (w:World) (es:List (KyP × Value)) (k:KyP) :
  (zjM es k=none/\(Instr.findKey ti (kyP k) (zdA es).toList).run P w=.ok none w) \/
  (∃ n v,zjM es k=some v/\es[n]? = some (k,v)/\(Instr.findKey ti (kyP k) (zdA es).toList).run P w=.ok (some (n,v)) w/\∀ u k',zjM (es.set n (k,u)) k'=if k'=k then some u else zjM es k'):=by
 have hrun:(Instr.findKey ti (kyP k) (zdA es).toList).run P w=(Instr.findAsking ti (kyP k) (zdA es).toList 0).run P w:=by
  unfold Instr.findKey;simp only[Sem.run_bind,run_underlying H.str,Result.andThen];cases h:(zdA es).toList with
  | nil=>simp [Instr.findNow,Instr.findAsking,Sem.run_pure]
  | cons e l =>
   have:Instr.findNow (.struct fs) (kyP k) (e :: l) 0=none:=by
    unfold Instr.findNow Instr.sameNow;rfl
   rw[this]
 rw[hrun,zwQ];rcases zEK H.eq w k es 0 0 with ⟨g1,g2⟩|⟨n,v,g1,g2,g3,g4⟩
 ·left;exact ⟨g1,g2⟩
 ·right;exact ⟨n,v,g1,g2,g3,g4⟩
theorem zD3 (H:KeyP P tm ti te fs) (w:World) (m:Nat) (es:List (KyP × Value)) (k:KyP) (z:Value) (hz:(zeroValue te).run P w=.ok z w) (h:MapQ w m es) :
  (Instr.lookup tm (.map (some m)) (kyP k) false).run P w=.ok ((zjM es k).getD z) w:=by
 unfold MapQ at h;unfold Instr.lookup;simp only[Sem.run_bind,run_underlying H.map,Result.andThen];rcases zFw H w es k with ⟨g1,g2⟩|⟨n,v,g1,_,g3,_⟩
 ·simp only[getObj,Sem.run_bind,Sem.run,h,Result.andThen,Sem.run_pure,H.chk,g2,g1,hz];simp [Sem.run_pure]
 ·simp only[getObj,Sem.run_bind,Sem.run,h,Result.andThen,Sem.run_pure,H.chk,g3,g1];simp [Sem.run_pure]
theorem zEL (H:KeyP P tm ti te fs) (w:World) (m:Nat) (es:List (KyP × Value)) (k:KyP) (z:Value) (hz:∀ w,(zeroValue te).run P w=.ok z w) (h:MapQ w m es) :
  ∃ es' n,es'[n]? = some (k,(zjM es k).getD z)/\(∀ u k',zjM (es'.set n (k,u)) k'=if k'=k then some u else zjM es k')/\(∀ k',(zjM es' k').getD z=(zjM es k').getD z) /\
   (Instr.mapEntry tm (.map (some m)) (kyP k)).run P w=.ok (.tuple #[(zjM es k).getD z,.int .i64 (n:Nat)]) (zm5 w m es'):=by
 unfold MapQ at h;rcases zFw H w es k with ⟨g1,g2⟩|⟨n,v,g1,g2,g3,g4⟩
 ·refine ⟨es ++ [(k,z)],es.length,by rw[g1];simp,fun u k'=>?_,fun k'=>?_,?_⟩
  ·have e:(es ++ [(k,z)]).set es.length (k,u)=es ++ [(k,u)]:=(by simp);rw[e,zr0 g1]
  ·rw[zr0 g1];by_cases q:k'=k
   ·rw[if_pos q,q,g1];rfl
   ·rw[if_neg q]
  ·unfold Instr.mapEntry;simp only[Sem.run_bind,run_underlying H.map,Result.andThen];simp only[getObj,Sem.run_bind,Sem.run,h,Result.andThen,Sem.run_pure,H.chk,g2,hz,setObj];have e:zm5 w m (es ++ [(k,z)])={ w with heap:=w.heap.setIfInBounds m (.map ((zdA es).push { key:=kyP k,val:=z,born:=es.length }) (es.length+1)) }:=by
    unfold zm5;rw[zwP];simp [zrY]
   rw[e,g1];simp [Sem.run_pure,goInt]
 ·refine ⟨es,n,by rw[g1];exact g2,g4,fun _=>rfl,?_⟩;unfold Instr.mapEntry;simp only[Sem.run_bind,run_underlying H.map,Result.andThen];have e1:(zdA es)[n]? = some (zrY (k,v) n):=(by unfold zdA;simp [g2]);simp only[getObj,Sem.run_bind,Sem.run,h,Result.andThen,Sem.run_pure,H.chk,g3,setObj,e1,Option.map_some,Option.getD_some,zrY,H.stay,g1];have e2:((zdA es).modify n fun e=>{ e with key:=kyP k })=zdA es:=by
   apply Array.ext_getElem?;intro i;rw[Array.getElem?_modify];by_cases q:n=i
   ·subst q;rw[if_pos rfl,e1];simp [zrY]
   ·rw[if_neg q]
  rw[e2];simp [Sem.run_pure,goInt,zm5]
theorem zEM (w:World) (m:Nat) (es:List (KyP × Value)) (n:Nat) (k:KyP) (v0 u:Value) (h:MapQ w m es) (hn:es[n]? = some (k,v0)):(Instr.entryStore tm (.map (some m)) (.int .i64 (n:Nat)) u).run P w=.ok () (zm5 w m (es.set n (k,u))):=by
 unfold MapQ at h;unfold Instr.entryStore;have hb:n<(zdA es).size:=(by unfold zdA;simp;exact (List.getElem?_eq_some_iff.1 hn).1);have hbn:∀ i (hi:i<(zdA es).size),(zdA es)[i].born=i:=fun i hi=>(by unfold zdA;simp [zrY]);have hf:(zdA es).findIdx? (fun e=>(e.born:Int) == ((n:Nat):Int))=some n:=by
  rw[Array.findIdx?_eq_some_iff_getElem];refine ⟨hb,by rw[hbn n hb];simp,fun j hj=>?_⟩;rw[hbn j (by omega)];simp;omega
 simp only[getObj,Sem.run_bind,Sem.run,h,Result.andThen,Sem.run_pure,asInt,asIntOf,hf,setObj];refine congrArg (Result.ok ()) ?_;unfold zm5;have e1:(zdA es)[n]? = some (zrY (k,v0) n):=(by unfold zdA;simp [hn]);have e2:((zdA es).modify n fun e=>{ e with val:=u })=zdA (es.set n (k,u)):=by
  apply Array.ext_getElem?;intro i;rw[Array.getElem?_modify];by_cases q:n=i
  ·subst q;rw[if_pos rfl,e1];unfold zdA;have hn':=(List.getElem?_eq_some_iff.1 hn).1;simp [zrY,hn']
  ·rw[if_neg q];unfold zdA;simp [List.getElem?_set,q]
 have e3:(es.set n (k,u)).length=es.length:=(by simp);rw[e3,e2]
end
theorem zCr (a:KyP) (w:World) (P:Program):(Instr.keyThatStays (kyP a) (kyP a)).run P w=.ok (kyP a) w:=by
 unfold Instr.keyThatStays;have e:Instr.sameBits 10000 (kyP a) (kyP a)=true:=by
  have h1:∀ k:ByteArray,(k == k)=true:=fun k=>by
   show (k.data == k.data)=true;exact beq_self_eq_true _
  simp [kyP,Instr.sameBits,h1]
 rw[e];rfl
theorem OutG.strs0 {base:Nat} {w:World} {v:Value} {n:Nat} (h:w.ownsRow base 9 1 v n (List.replicate n (.string (bs [])))):OutG StrK 1 (fun _=>False) base 9 w v (List.replicate n []):=by
 refine ⟨List.replicate n [.string (bs [])],by simp,fun cs h=>by rw[(List.mem_replicate.1 h).2];rfl,?_,fun j cs x hc hx=>?_⟩
 ·have e:(List.replicate n ([.string (bs [])]:List Value)).flatten=List.replicate n (.string (bs [])):=by
   clear h
   induction n with
   | zero=>rfl
   | succ n ih=>rw[List.replicate_succ,List.flatten_cons,ih,List.replicate_succ];rfl
  rw[e,List.length_replicate];exact h
 ·have h1:=List.mem_replicate.1 (List.mem_of_getElem? hc);have h2:=List.mem_replicate.1 (List.mem_of_getElem? hx);rw[h1.2,h2.2];exact rfl
section
variable {A:Nat->Prop} {base g n cap:Nat} {w:World} {xs:List Bs}
theorem zjN (h:OutG StrK 1 A base 9 w (.slice (some ⟨g,0,none⟩) n cap) xs) (j:Nat) (x:Bs) (hx:xs[j]? = some x) :
  w.cell? ⟨g,j,none⟩=some (.string (bs x))/\w.frozen? ⟨g,j,none⟩=false/\g<w.heap.size/\base<=g:=by
 obtain ⟨g',cs,he,h1,h2,-,-,-,hc,hr⟩:=h.at_ j x hx;cases he;obtain ⟨hj,_⟩:=List.getElem?_eq_some_iff.1 hx;have ht:=h.there j hj 0 (by omega);have h3:=hc 0 (.string (bs x)) (by rw[show cs=[.string (bs x)] from hr];rfl);rw[Nat.mul_one,Nat.add_zero] at h3 ht;exact ⟨h3,ht.2,h2,h1⟩
theorem zuG (h:OutG StrK 1 A base 9 w (.slice (some ⟨g,0,none⟩) n cap) xs) (j:Nat) (hj:j<xs.length) (y:Bs) :
  OutG StrK 1 A base 9 (w.setCell ⟨g,j,none⟩ (.string (bs y))) (.slice (some ⟨g,0,none⟩) n cap) (xs.set j y):=by
 have:=OutG.put zfJ h j hj [.string (bs y)] y rfl rfl;rw[Nat.mul_one] at this;exact this
end
theorem zAw {α:Type} (a:List α) (u y:α) (b:List α):(a ++ u :: b).set a.length y=a ++ y :: b:=by
 rw[List.set_append_right _ _ (Nat.le_refl _),Nat.sub_self];rfl
theorem zCs (a:List Bs) (n:Nat) (hn:0<n) (y:Bs):(a ++ List.replicate n []).set a.length y=(a ++ [y]) ++ List.replicate (n - 1) []:=by
 obtain ⟨m,rfl⟩:∃ m,n=m+1:=⟨n - 1,by omega⟩;rw[List.replicate_succ,zAw,Nat.add_sub_cancel,List.append_assoc];rfl
structure SuA (Y:Nat) (yc:Array Value) (lang:Bs) (O PL n:Nat) (os pl:List Bs) (w:World):Prop where
 yb:Blk w Y 33 yc
 lb:Blk w (Y+1) 9 #[.string (bs lang)]
 out:OutG StrK 1 (fun _=>False) O 9 w (.slice (some ⟨O,0,none⟩) n n) os
 pla:OutG StrK 1 (fun _=>False) PL 9 w (.slice (some ⟨PL,0,none⟩) n n) pl
section
variable {Y O PL n:Nat} {yc:Array Value} {lang:Bs} {os pl:List Bs} {w w':World}
theorem SuA.only {T:Nat->Prop} (h:SuA Y yc lang O PL n os pl w) (k:Only T w w') (h1:¬ T Y) (h2:¬ T (Y+1)) (h3:¬ T O) (h4:¬ T PL):SuA Y yc lang O PL n os pl w' :=
 ⟨h.yb.onl k h1,h.lb.onl k h2,h.out.only zfJ k (fun _ _ q=>q.elim) (fun g q=>by cases q;exact h3),h.pla.only zfJ k (fun _ _ q=>q.elim) (fun g q=>by cases q;exact h4)⟩
theorem SuA.kept (h:SuA Y yc lang O PL n os pl w) (k:Kept w w'):SuA Y yc lang O PL n os pl w' :=
 ⟨h.yb.kept k,h.lb.kept k,h.out.kept zfJ k,h.pla.kept zfJ k⟩
theorem SuA.setO (h:SuA Y yc lang O PL n os pl w) (j:Nat) (hj:j<os.length) (y:Bs) (h1:Y+1<O) (h2:O<PL):SuA Y yc lang O PL n (os.set j y) pl (w.setCell ⟨O,j,none⟩ (.string (bs y))) :=
 have k:=Only.setCell (w:=w) O j (.string (bs y))
 ⟨h.yb.onl k (by omega),h.lb.onl k (by omega),zuG h.out j hj y,h.pla.only zfJ k (fun _ _ q=>q.elim) (fun g q=>by cases q;exact (show ¬ (PL=O) from by omega))⟩
theorem SuA.setP (h:SuA Y yc lang O PL n os pl w) (j:Nat) (hj:j<pl.length) (y:Bs) (h1:Y+1<O) (h2:O<PL):SuA Y yc lang O PL n os (pl.set j y) (w.setCell ⟨PL,j,none⟩ (.string (bs y))) :=
 have k:=Only.setCell (w:=w) PL j (.string (bs y))
 ⟨h.yb.onl k (by omega),h.lb.onl k (by omega),h.out.only zfJ k (fun _ _ q=>q.elim) (fun g q=>by cases q;exact (show ¬ (O=PL) from by omega)),zuG h.pla j hj y⟩
end
theorem Tryz.keyShape (te tm:TypeId) (hm:Tryz.prog.underlying tm=some (.map 102 te)):∃ fs,KeyP Tryz.prog tm 102 te fs:=by
 refine ⟨_,hm,Tryz.underlying102,fun a b w=>?_,fun e a w=>?_,fun a w=>zCr a w _⟩
 ·have h:(Op.equal 102 (kyP a) (kyP b)).run Tryz.prog w=if a.1=b.1 then if a.2=b.2 then Result.ok true w else Result.ok false w else Result.ok false w:=by
   simp [Op.equal,Op.maxDepth,kyP,go_sem,Tryz.underlying102]
  rw[h];obtain ⟨a1,a2⟩:=a;obtain ⟨b1,b2⟩:=b;by_cases q1:a1=b1
  ·by_cases q2:a2=b2
   ·simp [q1,q2]
   ·simp [q1,q2]
  ·simp [q1]
 ·have hin:∀ s w,(Instr.checkKey e (9998+1) 9 (.string s)).run Tryz.prog w=.ok () w:=fun s w=>by
   rw[Instr.checkKey];simp only[Sem.run_bind,run_underlying Tryz.underlying9,Result.andThen];simp [Sem.run_pure]
  show (Instr.checkKey e (9998+1+1) 102 (kyP a)).run Tryz.prog w=.ok () w;rw[Instr.checkKey];simp only[Sem.run_bind,run_underlying Tryz.underlying102,Result.andThen,kyP];generalize 9998+1=N at *;simp [go_sem,hin]
theorem zfX (w:World):(zeroValue 3).run Tryz.prog w=.ok (.int .i64 0) w:=by kernel_rfl
theorem Tryz.infoSh:(Tryz.prog.info? 102).map (fun i=>(i.zero,i.size,i.bytes))=some (some (.agg #[.string ⟨#[]⟩,.string ⟨#[]⟩]),2,32):=by kernel_rfl
theorem Tryz.sizeSh:(Tryz.prog.info? 102).map (·.size)=some 2:=by kernel_rfl
theorem Tryz.sizeSt1:(Tryz.prog.info? 9).map (·.size)=some 1:=by kernel_rfl
def zhT (s:SrcT) (vA vE vF:Value) (Y L I:Nat) (t1 t2:Bs) (n0:Nat):Nat->(Nat->Value)->World->Prop
 | 0,V,_=>V 0=.func (.func 49) #[] #[.pointer (some ⟨Y,0,none⟩),.pointer (some ⟨L,0,none⟩)]
 | 1,V,_=>V 1=.agg #[.string (bs s.key),.string (bs s.type),vA,vE,vF]
 | 2,V,_=>V 2=.string (bs t1)
 | 3,V,_=>V 3=.func (.func 49) #[] #[.pointer (some ⟨Y,0,none⟩),.pointer (some ⟨L,0,none⟩)]
 | 4,V,_=>V 4=.agg #[.string (bs s.key),.string (bs s.type),vA,vE,vF]
 | 5,V,_=>V 5=.string (bs t2)
 | 6,V,_=>V 6=.agg #[.string (bs t1),.string (bs t2)]
 | 7,V,w=>∃ Z:Nat,V 7=.pointer (some ⟨Z,0,none⟩)/\n0<=Z/\Blk w Z 102 #[.string (bs []),.string (bs [])]
 | _,_,_=>True
theorem zAx {ops:Array Oper} {id:Nat} {a:Act} {wr:World} {Q:Exit->Act->World->Prop} (s:SrcT) (vA vE vF:Value) (Y L I:Nat) (t1 t2:Bs)
  (hc:zzZ ops 9 8 #[[0,1,2,3,4,5,6,7]] #[[],[],[0,1],[],[],[3,4],[2,5],[],[6,7]] 124=true)
  (p0:OpAt ops 0 (.move (.tmp 10)) (some 89))
  (p1:OpAt ops 1 (.load 50 (.tmp 20)) (some 90))
  (p2:OpAt ops 2 (.call { callee:=.value (.tmp 89),args:=#[.tmp 90,.const (.string ⟨#[97]⟩)],argTypes:=#[50,9] }) (some 91))
  (p3:OpAt ops 3 (.move (.tmp 10)) (some 92))
  (p4:OpAt ops 4 (.load 50 (.tmp 20)) (some 93))
  (p5:OpAt ops 5 (.call { callee:=.value (.tmp 92),args:=#[.tmp 93,.const (.string ⟨#[98]⟩)],argTypes:=#[50,9] }) (some 94))
  (p6:OpAt ops 6 (.build 102 #[(0,.tmp 91),(1,.tmp 94)]) (some 95))
  (p7:OpAt ops 7 (.alloc 102) (some 21))
  (p8:OpAt ops 8 (.store 102 (.tmp 21) (.tmp 95)) none)
  (hz:124<=a.tmps.size) (h10:a.eval (.tmp 10)=.func (.func 49) #[] #[.pointer (some ⟨Y,0,none⟩),.pointer (some ⟨L,0,none⟩)]) (h20:a.eval (.tmp 20)=.pointer (some ⟨I,0,none⟩))
  (HB:Hid (Blk wr I 50 #[.string (bs s.key),.string (bs s.type),vA,vE,vF])) (HA:Hid (∀ w',Kept wr w'->Calls Tryz.prog 49 #[.agg #[.string (bs s.key),.string (bs s.type),vA,vE,vF],.string (bs [97]),.pointer (some ⟨Y,0,none⟩),.pointer (some ⟨L,0,none⟩)] w' fun e w''=>e=.returned (.string (bs t1))/\Kept w' w'')) (HC:Hid (∀ w',Kept wr w'->Calls Tryz.prog 49 #[.agg #[.string (bs s.key),.string (bs s.type),vA,vE,vF],.string (bs [98]),.pointer (some ⟨Y,0,none⟩),.pointer (some ⟨L,0,none⟩)] w' fun e w''=>e=.returned (.string (bs t2))/\Kept w' w''))
  (hend:∀ (V:Nat->Value) w' TB,V 7=.pointer (some ⟨TB,0,none⟩)->wr.heap.size<=TB->Blk w' TB 102 #[.string (bs t1),.string (bs t2)]->Kept wr w'->Q .normal (((((((((a.put (some 89) (V 0)).put (some 90) (V 1)).put (some 91) (V 2)).put (some 92) (V 3)).put (some 93) (V 4)).put (some 94) (V 5)).put (some 95) (V 6)).put (some 21) (V 7)).put none (V 8)) w') :
  (Code.region id ops true).wp Tryz.prog Q a wr:=by
 have e0:=zaN p0;have e1:=zaN p1;have e2:=zaN p2;have e3:=zaN p3;have e4:=zaN p4;have e5:=zaN p5;have e6:=zaN p6;have e7:=zaN p7;have e8:=zaN p8;have hout:∀ t,(t=10\/t=20)->∀ j,j<9->zg8 ops j≠some t:=by
  intro t ht j hj;obtain rfl|rfl|rfl|rfl|rfl|rfl|rfl|rfl|rfl:j=0\/j=1\/j=2\/j=3\/j=4\/j=5\/j=6\/j=7\/j=8:=(by omega)
  all_goals simp [e0,e1,e2,e3,e4,e5,e6,e7,e8]
  all_goals omega
 refine zcS 9 8 124 _ _ hc (by rfl) hz (zhT s vA vE vF Y L I t1 t2 wr.heap.size) (fun w=>Kept wr w) Kept
  (fun V w=>∃ TB:Nat,V 7=.pointer (some ⟨TB,0,none⟩)/\wr.heap.size<=TB/\Blk w TB 102 #[.string (bs t1),.string (bs t2)]/\Kept wr w) ?_ ?_ ?_ ?_ ?_ ?_ ?_ ?_ ?_
 ·intro j hj V V' w hV h;have hjj:=hV j (.inl rfl);obtain rfl|rfl|rfl|rfl|rfl|rfl|rfl|rfl|rfl:j=0\/j=1\/j=2\/j=3\/j=4\/j=5\/j=6\/j=7\/j=8:=(by omega)
  all_goals (simp only[zhT] at h ⊢;try (rw[<- hjj];exact h))
 ·intro V V' w hV h;rw[<- hV 7 (.inr (by simp))];exact h
 ·intro j hj hne V w w' h k;obtain rfl|rfl|rfl|rfl|rfl|rfl|rfl|rfl:j=0\/j=1\/j=2\/j=3\/j=4\/j=5\/j=6\/j=7:=(by omega)
  ·exact h
  ·exact h
  ·exact h
  ·exact h
  ·exact h
  ·exact h
  ·exact h
  ·obtain ⟨Z,h1,h2,h3⟩:=h;exact ⟨Z,h1,h2,h3.kept k⟩
 ·intro j hj hne hni;exfalso;apply hni;have:j<8:=(by omega);simp only[Array.getD,List.size_toArray];obtain rfl|rfl|rfl|rfl|rfl|rfl|rfl|rfl:j=0\/j=1\/j=2\/j=3\/j=4\/j=5\/j=6\/j=7:=(by omega)
  all_goals simp
 ·exact zaB wr 1
 ·intro i hi hne V a' w' hG hF hR hS K hK;have o10:=(hR 10 (hout 10 (by omega))).trans h10;have o20:=(hR 20 (hout 20 (by omega))).trans h20;have hb:=HB.out.kept hG;have same:∀ v,zhT s vA vE vF Y L I t1 t2 wr.heap.size i (upd V i v) w'->K (a'.put (zg8 ops i) v) w':=fun v h=>hK v w' (Kept.refl _) hG h;obtain rfl|rfl|rfl|rfl|rfl|rfl|rfl|rfl:i=0\/i=1\/i=2\/i=3\/i=4\/i=5\/i=6\/i=7:=(by omega)
  ·exact zeT p0 o10 (same _ (zaR _ _ _))
  ·refine zdS p1 fun o1 ho hg' hd'=>?_;refine zaW hg' 50 (.tmp 20) ho _ #[.string (bs s.key),.string (bs s.type),vA,vE,vF] o20 hb _ Tryz.underlying50 rfl Tryz.sizeS5 ?_;rw[hd'];exact same _ (zaR _ _ _)
  ·have z0:=((hF 0 (by simp)).2 _ e0).trans (hF 0 (by simp)).1;have z1:=((hF 1 (by simp)).2 _ e1).trans (hF 1 (by simp)).1;refine zdJ p2 (f:=49) (args:=#[.agg #[.string (bs s.key),.string (bs s.type),vA,vE,vF],.string (bs [97]),.pointer (some ⟨Y,0,none⟩),.pointer (some ⟨L,0,none⟩)]) (w':=w') (fun o1 ho=>?_) ((HA.out w' hG).mono fun e w'' ⟨he,hk⟩=>⟨_,he,hK _ w'' hk (hG.trans hk) (zaR _ _ _)⟩);simp only[execOp,ho,resolve,List.map_toArray,List.map_cons,List.map_nil,z0,z1];simp [go_sem]
  ·exact zeT p3 o10 (same _ (zaR _ _ _))
  ·refine zdS p4 fun o1 ho hg' hd'=>?_;refine zaW hg' 50 (.tmp 20) ho _ #[.string (bs s.key),.string (bs s.type),vA,vE,vF] o20 hb _ Tryz.underlying50 rfl Tryz.sizeS5 ?_;rw[hd'];exact same _ (zaR _ _ _)
  ·have z3:=((hF 3 (by simp)).2 _ e3).trans (hF 3 (by simp)).1;have z4:=((hF 4 (by simp)).2 _ e4).trans (hF 4 (by simp)).1;refine zdJ p5 (f:=49) (args:=#[.agg #[.string (bs s.key),.string (bs s.type),vA,vE,vF],.string (bs [98]),.pointer (some ⟨Y,0,none⟩),.pointer (some ⟨L,0,none⟩)]) (w':=w') (fun o1 ho=>?_) ((HC.out w' hG).mono fun e w'' ⟨he,hk⟩=>⟨_,he,hK _ w'' hk (hG.trans hk) (zaR _ _ _)⟩);simp only[execOp,ho,resolve,List.map_toArray,List.map_cons,List.map_nil,z3,z4];simp [go_sem]
  ·have z2:=((hF 2 (by simp)).2 _ e2).trans (hF 2 (by simp)).1;have z5:=((hF 5 (by simp)).2 _ e5).trans (hF 5 (by simp)).1;refine zaY p6 (v:=.agg #[.string (bs t1),.string (bs t2)]) (w':=w') (fun o1 ho=>?_) (same _ (zaR _ _ _));have y91:=z2;simp only[Act.eval,Array.getD_eq_getD_getElem?] at y91;have y94:=z5;simp only[Act.eval,Array.getD_eq_getD_getElem?] at y94;simp only[execOp,ho];simp [go_sem,y91,y94]
  ·obtain ⟨i0,hi,hz0,hz1,hz2⟩:=info_parts Tryz.infoSh;refine zaY p7 (v:=.pointer (some ⟨w'.heap.size,0,none⟩)) (w':=w'.alloc (.cells #[.string (bs []),.string (bs [])] 102)) (fun o1 ho=>?_) (hK _ _ (zaA _ _) (hG.trans (zaA _ _)) ⟨w'.heap.size,zaR _ _ _,hG.size,Blk.new _ _ _⟩);simp only[execOp,ho];simp [go_sem,hi,hz0]
 ·intro V a' w' hG hF hR K hK;obtain ⟨⟨Z,r1,r2,r3⟩,r4⟩:=hF 7 (by simp);have z1:=(r4 _ e7).trans r1;have z0:=((hF 6 (by simp)).2 _ e6).trans (hF 6 (by simp)).1;refine zdS p8 fun o1 ho hg' hd'=>?_;refine zbA hg' 102 (.tmp 21) (.tmp 95) ho Z #[.string (bs []),.string (bs [])] #[.string (bs t1),.string (bs t2)] z1 z0 r3 rfl Tryz.sizeSh (by simp [Value.oneCell']) ?_;intro w2 hb2 ho2;rw[hd'];exact hK _ _ ⟨Z,(zrN (by omega)).trans r1,r2,hb2,hG.trans' (ho2.below hG.size (fun i e=>by rw[e];exact r2))⟩
 ·intro i hi hne hni;exfalso;apply hni;have:i<8:=(by omega);obtain rfl|rfl|rfl|rfl|rfl|rfl|rfl|rfl:i=0\/i=1\/i=2\/i=3\/i=4\/i=5\/i=6\/i=7:=(by omega)
  all_goals simp
 ·intro V w' ⟨TB,g1,g2,g3,g4⟩ _;have:=hend V w' TB g1 g2 g3 g4;simp only[zdF,e0,e1,e2,e3,e4,e5,e6,e7,e8];exact this
def zhU (s:SrcT) (vA vE vF:Value) (Y L I O n ix:Nat) (t1 t2:Bs) (n0:Nat):Nat->(Nat->Value)->World->Prop
 | 0,V,_=>V 0=.func (.func 49) #[] #[.pointer (some ⟨Y,0,none⟩),.pointer (some ⟨L,0,none⟩)]
 | 1,V,_=>V 1=.agg #[.string (bs s.key),.string (bs s.type),vA,vE,vF]
 | 2,V,_=>V 2=.slice (some ⟨O,0,none⟩) n n
 | 3,V,_=>V 3=.int .i64 ix
 | 4,V,_=>V 4=.pointer (some ⟨O,ix,none⟩)
 | 5,V,_=>V 5=.string (bs t1)
 | 6,V,_=>V 6=.string (bs t2)
 | _,_,_=>True
theorem zAy {ops:Array Oper} {id:Nat} {a:Act} {wr:World} {Q:Exit->Act->World->Prop} (s:SrcT) (vA vE vF:Value) (Y L I O n ix:Nat) (t1 t2:Bs)
  (hc:zzZ ops 8 7 #[[0,1,2,3,4,5,6]] #[[],[],[],[],[2,3],[4],[0,1,5],[6]] 124=true)
  (p0:OpAt ops 0 (.move (.tmp 10)) (some 109))
  (p1:OpAt ops 1 (.load 50 (.tmp 20)) (some 110))
  (p2:OpAt ops 2 (.move (.tmp 9)) (some 111))
  (p3:OpAt ops 3 (.move (.tmp 19)) (some 112))
  (p4:OpAt ops 4 (.indexAddr 29 (.tmp 111) (.tmp 112)) (some 113))
  (p5:OpAt ops 5 (.load 9 (.tmp 113)) (some 114))
  (p6:OpAt ops 6 (.call { callee:=.value (.tmp 109),args:=#[.tmp 110,.tmp 114],argTypes:=#[50,9] }) (some 115))
  (p7:OpAt ops 7 (.assign (.tmp 115)) (some 22))
  (hz:124<=a.tmps.size) (h9:a.eval (.tmp 9)=.slice (some ⟨O,0,none⟩) n n) (h10:a.eval (.tmp 10)=.func (.func 49) #[] #[.pointer (some ⟨Y,0,none⟩),.pointer (some ⟨L,0,none⟩)]) (h19:a.eval (.tmp 19)=.int .i64 ix) (h20:a.eval (.tmp 20)=.pointer (some ⟨I,0,none⟩))
  (HB:Hid (Blk wr I 50 #[.string (bs s.key),.string (bs s.type),vA,vE,vF])) (HCO:Hid (O<wr.heap.size/\wr.cell? ⟨O,ix,none⟩=some (.string (bs t1)))) (hin:ix<n) (hn:n<=100) (HA:Hid (∀ w',Kept wr w'->Calls Tryz.prog 49 #[.agg #[.string (bs s.key),.string (bs s.type),vA,vE,vF],.string (bs t1),.pointer (some ⟨Y,0,none⟩),.pointer (some ⟨L,0,none⟩)] w' fun e w''=>e=.returned (.string (bs t2))/\Kept w' w''))
  (hend:∀ (V:Nat->Value) w',V 7=.string (bs t2)->Kept wr w'->Q .normal ((((((((a.put (some 109) (V 0)).put (some 110) (V 1)).put (some 111) (V 2)).put (some 112) (V 3)).put (some 113) (V 4)).put (some 114) (V 5)).put (some 115) (V 6)).put (some 22) (V 7)) w') :
  (Code.region id ops true).wp Tryz.prog Q a wr:=by
 have e0:=zaN p0;have e1:=zaN p1;have e2:=zaN p2;have e3:=zaN p3;have e4:=zaN p4;have e5:=zaN p5;have e6:=zaN p6;have e7:=zaN p7;have hout:∀ t,(t=9\/t=10\/t=19\/t=20)->∀ j,j<8->zg8 ops j≠some t:=by
  intro t ht j hj;obtain rfl|rfl|rfl|rfl|rfl|rfl|rfl|rfl:j=0\/j=1\/j=2\/j=3\/j=4\/j=5\/j=6\/j=7:=(by omega)
  all_goals simp [e0,e1,e2,e3,e4,e5,e6,e7]
  all_goals omega
 refine zcS 8 7 124 _ _ hc (by rfl) hz (zhU s vA vE vF Y L I O n ix t1 t2 wr.heap.size) (fun w=>Kept wr w) Kept
  (fun V w=>V 7=.string (bs t2)/\Kept wr w) ?_ ?_ ?_ ?_ ?_ ?_ ?_ ?_ ?_
 ·intro j hj V V' w hV h;have hjj:=hV j (.inl rfl);obtain rfl|rfl|rfl|rfl|rfl|rfl|rfl|rfl:j=0\/j=1\/j=2\/j=3\/j=4\/j=5\/j=6\/j=7:=(by omega)
  all_goals (simp only[zhU] at h ⊢;try (rw[<- hjj];exact h))
 ·intro V V' w hV h;rw[<- hV 7 (.inl rfl)];exact h
 ·intro j hj hne V w w' h k;obtain rfl|rfl|rfl|rfl|rfl|rfl|rfl:j=0\/j=1\/j=2\/j=3\/j=4\/j=5\/j=6:=(by omega)
  all_goals exact h
 ·intro j hj hne hni;exfalso;apply hni;have:j<7:=(by omega);simp only[Array.getD,List.size_toArray];obtain rfl|rfl|rfl|rfl|rfl|rfl|rfl:j=0\/j=1\/j=2\/j=3\/j=4\/j=5\/j=6:=(by omega)
  all_goals simp
 ·exact zaB wr 1
 ·intro i hi hne V a' w' hG hF hR hS K hK;have o9:=(hR 9 (hout 9 (by omega))).trans h9;have o10:=(hR 10 (hout 10 (by omega))).trans h10;have o19:=(hR 19 (hout 19 (by omega))).trans h19;have o20:=(hR 20 (hout 20 (by omega))).trans h20;have hb:=HB.out.kept hG;have c0:w'.cell? ⟨O,ix,none⟩=some (.string (bs t1)):=(hG.cell (p:=⟨O,ix,none⟩) HCO.out.1).trans HCO.out.2;have same:∀ v,zhU s vA vE vF Y L I O n ix t1 t2 wr.heap.size i (upd V i v) w'->K (a'.put (zg8 ops i) v) w':=fun v h=>hK v w' (Kept.refl _) hG h;obtain rfl|rfl|rfl|rfl|rfl|rfl|rfl:i=0\/i=1\/i=2\/i=3\/i=4\/i=5\/i=6:=(by omega)
  ·exact zeT p0 o10 (same _ (zaR _ _ _))
  ·refine zdS p1 fun o1 ho hg' hd'=>?_;refine zaW hg' 50 (.tmp 20) ho _ #[.string (bs s.key),.string (bs s.type),vA,vE,vF] o20 hb _ Tryz.underlying50 rfl Tryz.sizeS5 ?_;rw[hd'];exact same _ (zaR _ _ _)
  ·exact zeT p2 o9 (same _ (zaR _ _ _))
  ·exact zeT p3 o19 (same _ (zaR _ _ _))
  ·have z2:=((hF 2 (by simp)).2 _ e2).trans (hF 2 (by simp)).1;have z3:=((hF 3 (by simp)).2 _ e3).trans (hF 3 (by simp)).1;have z2:=((hF 2 (by simp)).2 _ e2).trans (hF 2 (by simp)).1;have z3:=((hF 3 (by simp)).2 _ e3).trans (hF 3 (by simp)).1;refine zaY p4 (v:=.pointer (some ⟨O,ix,none⟩)) (w':=w') (fun o1 ho=>?_) (same _ (zaR _ _ _));simp only[execOp,ho,z2,z3];simp [go_sem,Tryz.underlying29,Tryz.sizeSt1];intro hh;omega
  ·have z4:=((hF 4 (by simp)).2 _ e4).trans (hF 4 (by simp)).1;refine zaY p5 (v:=.string (bs t1)) (w':=w') (fun o1 ho=>?_) (same _ (zaR _ _ _));simp only[execOp,ho,z4];simp [go_sem,Tryz.underlying9,c0]
  ·have z0:=((hF 0 (by simp)).2 _ e0).trans (hF 0 (by simp)).1;have z1:=((hF 1 (by simp)).2 _ e1).trans (hF 1 (by simp)).1;have z5:=((hF 5 (by simp)).2 _ e5).trans (hF 5 (by simp)).1;refine zdJ p6 (f:=49) (args:=#[.agg #[.string (bs s.key),.string (bs s.type),vA,vE,vF],.string (bs t1),.pointer (some ⟨Y,0,none⟩),.pointer (some ⟨L,0,none⟩)]) (w':=w') (fun o1 ho=>?_) ((HA.out w' hG).mono fun e w'' ⟨he,hk⟩=>⟨_,he,hK _ w'' hk (hG.trans hk) (zaR _ _ _)⟩);simp only[execOp,ho,resolve,List.map_toArray,List.map_cons,List.map_nil,z0,z1,z5];simp [go_sem]
 ·intro V a' w' hG hF hR K hK;have z0:=((hF 6 (by simp)).2 _ e6).trans (hF 6 (by simp)).1;exact zz1 p7 z0 (hK _ _ ⟨zaR _ _ _,hG⟩)
 ·intro i hi hne hni;exfalso;apply hni;have:i<7:=(by omega);obtain rfl|rfl|rfl|rfl|rfl|rfl|rfl:i=0\/i=1\/i=2\/i=3\/i=4\/i=5\/i=6:=(by omega)
  all_goals simp
 ·intro V w' ⟨g1,g2⟩ _;have:=hend V w' g1 g2;simp only[zdF,e0,e1,e2,e3,e4,e5,e6,e7];exact this
end Go.Proofs.YtmcoomlkbgiboaaGreatDoor
