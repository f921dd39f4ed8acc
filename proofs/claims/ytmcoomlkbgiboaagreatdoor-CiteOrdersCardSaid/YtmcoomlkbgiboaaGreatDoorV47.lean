/- A row of sources that a call owns, as a slice. No condition. -/
import Derived.Test.YtmcoomlkbgiboaaGreatDoorV24
import Derived.Test.YtmcoomlkbgiboaaGreatDoorV30
import Derived.Test.YtmcoomlkbgiboaaGreatDoorV46
import Derived.Test.YtmcoomlkbgiboaaGreatDoorV32
import Derived.Test.YtmcoomlkbgiboaaGreatDoorV36
import Derived.Test.YtmcoomlkbgiboaaGreatDoorV26
import Derived.Test.YtmcoomlkbgiboaaGreatDoorV44
import Derived.Test.YtmcoomlkbgiboaaGreatDoorV01
import Derived.Test.YtmcoomlkbgiboaaGreatDoorRows
import Derived.ProofKit
import Derived.OpenShut
import Derived.Carry
import Derived.ChangeSame
import Derived.Deep.DeepHandedRow
import Derived.Lib.LaidTab
import Derived.Shelf.Vars
set_option linter.all false
set_option maxRecDepth 100000
set_option maxHeartbeats 12800000
namespace Go.Proofs.YtmcoomlkbgiboaaGreatDoor
open Go.RowKit
theorem Srcs.row2 {S S':Nat->Prop} {w:World} {v:Value} {xs:List SrcT} (h:RowR S 5 (SrcK S' w) w v xs):Srcs w v xs:=by
 obtain ⟨a,c,hv,hc,h3⟩:=h;refine ⟨a,c,hv,hc,fun q=>?_⟩;obtain ⟨g,o,ha,hg,-,hcell⟩:=h3 q;refine ⟨g,o,ha,hg,fun j s hs=>?_⟩;obtain ⟨cs,hl,hcs,vA,vE,vF,rfl,⟨pA,-⟩,⟨pE,-⟩,pF,-⟩:=hcell j s hs;exact ⟨vA,vE,vF,(by have:=hcs 0 _ rfl;rwa [Nat.add_zero] at this),hcs 1 _ rfl,hcs 2 _ rfl,hcs 3 _ rfl,hcs 4 _ rfl,pA,pE,pF⟩
theorem Srcs.outO {A:Nat->Prop} {base:Nat} {w:World} {v:Value} {xs:List SrcT} (h:OutG SrcK 5 A base 50 w v xs):Srcs w v xs :=
 Srcs.row2 (OutG.row (S:=fun _=>True) zpG (h.mono zpG (fun _ _ _=>trivial)) (fun _ _ h=>h) (fun _ _=>trivial))
def OrdQ (r:Int × List SrcT) (w:World) (e:Ending) (w':World):Prop:=∃ v,e=.returned (.tuple #[v,.int .i64 r.1])/\Srcs w' v r.2/\Kept w w'
theorem Srcs.nil0 (w:World):Srcs w (.slice none 0 0) []:=⟨none,0,rfl,Nat.le_refl _,fun h=>absurd h (by simp)⟩
theorem zDw {α:Type} (S:List α) (x z:α) (p:Nat) (h:S[p]? = some z):((S.take (p+1) ++ x :: S.drop (p+1)).set (p+1) z).set p x=S.take p ++ x :: S.drop p:=by
 obtain ⟨hp,rfl⟩:=List.getElem?_eq_some_iff.1 h;have e1:S.take (p+1)=S.take p ++ [S[p]]:=(by rw[List.take_succ,h];rfl);have e2:S.drop p=S[p] :: S.drop (p+1):=List.drop_eq_getElem_cons hp;have hl:(S.take p).length=p:=(by rw[List.length_take];omega);rw[e1,e2];generalize S[p]=z at *;generalize S.drop (p+1)=D at *;generalize S.take p=T at *;subst hl;simp
theorem zEG {α:Type} (S:List α) (x z:α) (p:Nat) (h:S[p]? = some z):(S.take (p+1) ++ x :: S.drop (p+1))[p]? = some z:=by
 obtain ⟨hp,_⟩:=List.getElem?_eq_some_iff.1 h;rw[List.getElem?_append_left (by rw[List.length_take];omega),List.getElem?_take_of_lt (by omega)];exact h
theorem zEH {α:Type} (S:List α) (x:α) (p:Nat) (h:p<=S.length):(S.take p ++ x :: S.drop p).length=S.length+1:=by
 rw[List.length_append,List.length_cons,List.length_take,List.length_drop];omega
theorem zxK (v vE:Value) (l:List SrcT) (y:StyT) (lang:Bs) (w:World) (hv:Srcs w v l) (hl:l.length<=19) (hfit:∀ s∈l,FitL s) (hE:Prs w vE y.entries) (hy:SmallY y) :
  Calls Tryz.prog 16 #[v,zeJ vE y,.string (bs lang)] w (OrdQ (zoF y lang l) w):=by
 obtain ⟨i5,hi5,hz50,hz51,hz52⟩:=info_parts Tryz.infoSo5;obtain ⟨a,c,rfl,hc⟩:=(show ∃ a c,v=.slice a l.length c/\l.length<=c by obtain ⟨a,c,e,q,_⟩:=hv;exact ⟨a,c,e,q⟩);obtain ⟨aE,cE,rfl,lE⟩:=(show ∃ a c,vE=.slice a y.entries.length c/\y.entries.length<=c by obtain ⟨a,c,e,q,_⟩:=hE;exact ⟨a,c,e,q⟩);have HK0:=Hd (zaA w (.cells (zaE (.slice aE y.entries.length cE) y) 33));have HY0:=Hd (Blk.new w 33 (zaE (.slice aE y.entries.length cE) y));have HCH:=Hd (fun w' (k:Kept w w')=>zr9 (.slice aE y.entries.length cE) y w' hy (hE.kept k));have HV:=Hd hv;have HFT:=Hd hfit;have HFIN0:Hid (zdY y≠0->∀ w',Kept w w'->OrdQ (zoF y lang l) w (.returned (.tuple #[.slice none 0 0,.int .i64 (zdY y)])) w'):=fun h w' k=>by
  unfold zoF;rw[if_neg h];exact ⟨_,rfl,Srcs.nil0 _,k⟩
 have HFIN1:Hid (zdY y=0->∀ u w',Srcs w' u (zoC (zoB lang) (wsY y) l)->Kept w w'->OrdQ (zoF y lang l) w (.returned (.tuple #[u,.int .i64 0])) w'):=fun h u w' h1 k=>by
  unfold zoF;rw[if_pos h];exact ⟨_,rfl,h1,k⟩
 generalize OrdQ (zoF y lang l) w=P at *;clear hv hfit hE;obtain ⟨B,HBB⟩:∃ B,Hid (w.heap.size=B):=⟨_,rfl⟩;have HB10:=Hd (zcK HY0.out);unfold zeJ zaE at HCH;unfold zaE at HK0;unfold zeJ zaE;go_enter Tryz.func16,Tryz.ntmps16;go_upto_region 1 with fail;rw[HBB.out] at HY0 HB10;rw[HBB.out];unfold zaE at HY0 HB10;generalize w.alloc _=w0 at *;obtain ⟨⟨b0,b1,b2,b3,b4,b5,b6,b7,b8,b9⟩,bz⟩:=HB10.out;have HCX:=Hd (HCH.out w0 HK0.out);clear HCH;go_wp2_with fail;refine HCX.out.mono ?_;rintro e w1 ⟨rfl,hk1⟩;have HK1:=Hd (HK0.out.trans hk1);have HY1:=Hd (HY0.out.kept hk1);clear hk1 HCX HY0 HK0 HB10 b0 b1 b2 b3 b4 b5 b6 b7 b8 b9 bz;by_cases he:¬ zdY y=0
 ·have hne:(zdY y == 0)=false:=(by rw[beq_eq_false_iff_ne];exact he);have hnb:(zdY y != 0)=true:=(by rw[bne_iff_ne];exact he);have HF:=Hd (HFIN0.out he w1 HK1.out);generalize zdY y=E at *;go_wp2_with fail
  (try go_ret2)
  exact HF.out
 ·have he:zdY y=0:=Decidable.not_not.1 he;have HFN:=Hd (HFIN1.out he);have HWD:=Hd (zsK y.sort w1 (by have:=hy.2.1;omega));rw[zBe he] at HWD;unfold WrdP at HWD;have hwl:=zAp he;have hsl:=hy.2.1;have HY2:=Hd (zcK HY1.out).1.2.2.1;have y2:=HY2.out;have yz:=HY1.out.lt;have HSC:=Hd (zoD lang);have HIG:Hid ((zoB lang).ignore=[]):=rfl;have HCO:=Hd (fun w'=>zxJ lang w');unfold RCoP at HCO;obtain ⟨C,HCC⟩:∃ C,Hid (zoB lang=C):=⟨_,rfl⟩;obtain ⟨ws,HWS⟩:∃ ws,Hid (wsY y=ws):=⟨_,rfl⟩;rw[HCC.out] at HSC HIG HCO HFN;rw[HWS.out] at HWD hwl HFN;rw[he];obtain ⟨so,HSO⟩:∃ so,Hid (y.sort=so):=⟨_,rfl⟩;rw[HSO.out] at y2 HWD hwl hsl;clear HFIN0 HFIN1 HY2 HCC HWS he;go_wp2_with fail;refine HWD.out.mono ?_;rintro e w2 ⟨vW,rfl,hsw,hk2⟩;have HSW:=Hd hsw;obtain ⟨aW,cW,rfl,lW⟩:=hsw.shape;have HK2:=Hd (HK1.out.trans hk2);clear hsw hk2 HWD y2 yz HY1;go_wp2_with fail;refine (HCO.out w2).mono ?_;rintro e w3 ⟨vR,vO,rfl,hcol,hk3⟩;rw[HIG.out];obtain ⟨aR,cR,rfl,lR⟩:=hcol.1.form;obtain ⟨aO,cO,rfl,lO⟩:=hcol.2.form;have hka:=zaA w3 (.cells #[.slice aR C.ranks.length cR,.slice aO C.order.length cO,.string (bs [])] 88);have HCOL:=Hd (hcol.kept hka);have HSW4:=Hd ((HSW.out.kept hk3).kept hka);have HCB:=Hd (Blk.new w3 88 #[.slice aR C.ranks.length cR,.slice aO C.order.length cO,.string (bs [])]);have HK4:=Hd ((HK2.out.trans hk3).trans hka);obtain ⟨c2,HCE⟩:∃ c2,Hid (w3.heap.size=c2):=⟨_,rfl⟩;clear hcol hk3 hka HSW HCO HK1 HK2;go_upto_region 6 with fail;rw[HCE.out] at HCB ⊢;generalize w3.alloc _=w4 at *;clear HCE;have HV4:=Hd (HV.out.kept HK4.out);clear HV;go_wp2_with fail;go_loopw [9,12] (fun o i wr=>∃ k:Nat,k<=l.length/\i=.int .i64 k/\Hid (OutG SrcK 5 (fun g=>g<w4.heap.size) w4.heap.size 50 wr o (zoC C ws (l.take k)))/\Hid (Kept w4 wr)) (fun _ i _=>l.length - (intOf i).toNat)
  case atStart=>exact ⟨0,Nat.zero_le _,rfl,OutG.nil _ _ _ _ _ _,Kept.refl _⟩
  case round =>
   obtain ⟨k,hk,rfl,HGR,HKR⟩:=hrel;by_cases hlt:k<l.length
   ·obtain ⟨x,hx⟩:∃ x,l[k]? = some x:=⟨_,List.getElem?_eq_getElem hlt⟩;have hft:=HFT.out x (List.mem_of_getElem? hx);have HFX:=Hd hft;have HNS:Hid (zoC C ws (l.take (k+1))=zrB (cfO C ws) (zoC C ws (l.take k)) x):=by
     show _=_;have:l.take (k+1)=l.take k ++ [x]:=(by rw[List.take_succ,hx];rfl);rw[this];exact zn5 _ _
    have HSF:Hid (∀ z∈zoC C ws (l.take k),FitL z):=fun z hz=>HFT.out z (List.mem_of_mem_take ((zmK C ws _).mem_iff.1 hz));have hul:(zoC C ws (l.take k)).length=k:=(by rw[zpN,List.length_take];omega);obtain ⟨S,HSS⟩:∃ S,Hid (zoC C ws (l.take k)=S):=⟨_,rfl⟩;rw[HSS.out] at HGR HNS HSF hul;obtain ⟨g,o,vA,vE,vF,rfl,hg,e0,e1,e2,e3,e4,pA,pE,pF⟩:=Srcs.at_ HV4.out k x hx;have c0:=(HKR.out.cell (p:=⟨g,o+k * 5,none⟩) hg).trans e0;have c1:=(HKR.out.cell (p:=⟨g,o+k * 5+1,none⟩) hg).trans e1;have c2':=(HKR.out.cell (p:=⟨g,o+k * 5+2,none⟩) hg).trans e2;have c3:=(HKR.out.cell (p:=⟨g,o+k * 5+3,none⟩) hg).trans e3;have c4:=(HKR.out.cell (p:=⟨g,o+k * 5+4,none⟩) hg).trans e4;have HSL:Hid (SrcL (fun g=>g<w4.heap.size) w4 vA vE vF x):=⟨⟨pA,pA.ltB⟩,⟨pE,pE.ltB⟩,pF,pF.ltB⟩;have HCX:Hid (∀ w',Kept w4 w'->w'.cell? ⟨g,o+k * 5,none⟩=some (.string (bs x.key))/\w'.cell? ⟨g,o+k * 5+1,none⟩=some (.string (bs x.type))/\w'.cell? ⟨g,o+k * 5+2,none⟩=some vA/\w'.cell? ⟨g,o+k * 5+3,none⟩=some vE/\w'.cell? ⟨g,o+k * 5+4,none⟩=some vF/\g<w'.heap.size):=fun w' kk =>
     ⟨(kk.cell (p:=⟨g,o+k * 5,none⟩) hg).trans e0,(kk.cell (p:=⟨g,o+k * 5+1,none⟩) hg).trans e1,(kk.cell (p:=⟨g,o+k * 5+2,none⟩) hg).trans e2,(kk.cell (p:=⟨g,o+k * 5+3,none⟩) hg).trans e3,(kk.cell (p:=⟨g,o+k * 5+4,none⟩) hg).trans e4,Nat.lt_of_lt_of_le hg kk.size⟩
    obtain ⟨aA,cA,rfl,lA⟩:=pA.shape;obtain ⟨aS,cS,rfl,lS⟩:=pE.shape;obtain ⟨aF,cF,rfl,lF⟩:=(show ∃ a c,vF=.slice a x.fields.length c/\x.fields.length<=c by obtain ⟨a,c,e,l,_⟩:=pF;exact ⟨a,c,e,l⟩);have hgr:g<wr.heap.size:=Nat.lt_of_lt_of_le hg HKR.out.size;have hka:=zaA wr (.cells #[.string (bs x.key),.string (bs x.type),.slice aA x.author.length cA,.slice aS x.editor.length cS,.slice aF x.fields.length cF] 50);have HROW:=Hd (Blk.new wr 50 #[.string (bs x.key),.string (bs x.type),.slice aA x.author.length cA,.slice aS x.editor.length cS,.slice aF x.fields.length cF]);have HG6:=Hd (HGR.out.kept zpG hka);have HKA:=Hd (HKR.out.trans hka);obtain ⟨ar,cr,rfl,hcr,hmr⟩:=HGR.out.form;have HYY:Hid (SrcK (fun g=>g<w4.heap.size/\(Value.slice ar S.length cr).ownBlock≠some g) _ [.string (bs x.key),.string (bs x.type),.slice aA x.author.length cA,.slice aS x.editor.length cS,.slice aF x.fields.length cF] x) :=
     ⟨_,_,_,rfl,HSL.out.sam (Sam.kept HKA.out) (fun g _ q=>⟨q,fun e=>by have:=(HGR.out.blk g e).1;omega⟩)⟩
    have hbz:w4.heap.size<=(wr.alloc (.cells #[.string (bs x.key),.string (bs x.type),.slice aA x.author.length cA,.slice aS x.editor.length cS,.slice aF x.fields.length cF] 50)).heap.size:=HKA.out.size;have HUL:=Hd hul;have hSl:S.length<=19:=(by omega);clear e0 e1 e2 e3 e4 pA pE pF hx hft hka hul HSS;go_wp2_with (at_builtin;refine zkQ ?_);refine Hd ?_;refine zaS zpG rfl (.tmp 30) (.tmp 35) 31 rfl i5 _ 104 Tryz.underlying31 hi5 hz50 hz51 hz52 rfl (by omega) (by rfl) HG6.out wr.heap.size _ _ (by rfl) (fun j u hu=>HROW.out.cell j u (by rw[<- Array.getElem?_toList];exact hu)) rfl HYY.out (by unfold maxLen;omega) (by omega) hbz _ rfl ?_;intro g7 c7 w7 hout7 hgrow7 hat7 hlt7;have HOUT7:=Hd hout7;have HK7:Hid (Kept w4 w7):=HKA.out.trans' ((Only.grown hgrow7).below HKA.out.size (fun i q=>(HG6.out.blk i q.symm).1));have hg7:w4.heap.size<=g7:=(hout7.blk g7 rfl).1;clear hout7 hgrow7 hat7 hlt7 HROW HG6 HKA HYY hbz HGR HKR c0 c1 c2' c3 c4 hgr;have hk19:k<=19:=(by omega);go_wp2_with fail;go_loopw [13] (fun i wq=>∃ q:Nat,q<=S.length/\i=.int .i64 q/\Hid (OutG SrcK 5 (fun g=>g<w4.heap.size) w4.heap.size 50 wq (.slice (some ⟨g7,0,none⟩) (S.length+1) c7) (S.take q ++ x :: S.drop q))/\Hid (∀ z∈S.drop q,0<cfO C ws z x)/\Hid (Kept w4 wq)) (fun i _=>(intOf i).toNat)
    case atStart =>
     refine ⟨S.length,Nat.le_refl _,?_,?_,?_,HK7.out⟩
     ·rw[HUL.out]
     ·show OutG _ _ _ _ _ _ _ _;rw[List.take_length,List.drop_length];exact HOUT7.out
     ·show ∀ z∈_,_;rw[List.drop_length];intro z hz;cases hz
    case round =>
     obtain ⟨q,hq,rfl,HOQ,HGT,HKQ⟩:=hrel;have HSTOP:Hid (¬ (0<q/\∀ z,S[q - 1]? = some z->0<cfO C ws z x)->zoC C ws (l.take (k+1))=S.take q ++ x :: S.drop q):=by
      show _->_;intro h;rw[HNS.out];exact zzV S x q hq HGT.out (fun z h0 hz h1=>h ⟨h0,fun z' hz'=>by rw[hz] at hz';cases hz';exact h1⟩)
     by_cases hq0:q=0
     ·have HE:=HSTOP.out (fun h=>by omega);have HO2:Hid (OutG SrcK 5 (fun g=>g<w4.heap.size) w4.heap.size 50 wr (.slice (some ⟨g7,0,none⟩) (S.length+1) c7) (zoC C ws (l.take (k+1)))):=(by rw[HE];exact HOQ.out);have hz0:¬ 0<q:=(by omega);have hz1:decide (0<(q:Int))=false:=decide_eq_false (by omega);clear HE HSTOP HOQ hq0;go_wp2_with fail
      go_quiet (fail)
      all_goals
       go_wp2_with fail;go_roundw
       case rel=>exact ⟨k+1,by omega,by go_num,Hd (HO2.out.kept zpG (zaB _ _)),HKQ.out.trans (zaB _ _)⟩
       case measure=>simp [intOf];omega
     ·obtain ⟨p,HQP⟩:∃ p,Hid (q=p+1):=⟨q - 1,by show _=_;omega⟩;have hqp:=HQP.out;obtain ⟨z,hz⟩:∃ z,S[p]? = some z:=⟨_,List.getElem?_eq_getElem (by omega)⟩;have hzf:=HSF.out z (List.mem_of_getElem? hz);obtain ⟨g',cs,e',-,hglt,-,-,hcl,hcells,zA,zE,zF,rfl,hzl⟩:=HOQ.out.at_ p z (by rw[hqp];exact zEG S x z p hz);cases e';obtain ⟨⟨zpA,-⟩,⟨zpE,-⟩,zpF,-⟩:=id hzl;obtain ⟨az,cz,rfl,lz⟩:=zpA.shape;obtain ⟨bz,dz,rfl,mz⟩:=zpE.shape;obtain ⟨fz,hz',rfl,nz⟩:=(show ∃ a c,zF=.slice a z.fields.length c/\z.fields.length<=c by obtain ⟨a,c,e,l,_⟩:=zpF;exact ⟨a,c,e,l⟩);have k0:=hcells 0 _ rfl;have k1:=hcells 1 _ rfl;have k2:=hcells 2 _ rfl;have k3:=hcells 3 _ rfl;have k4:=hcells 4 _ rfl;rw[Nat.add_zero] at k0;have HZL:=Hd hzl;have HCC:Hid (∀ w',Kept wr w'->(w'.cell? ⟨g7,p * 5,none⟩=some (.string (bs z.key))/\w'.cell? ⟨g7,p * 5+1,none⟩=some (.string (bs z.type))/\w'.cell? ⟨g7,p * 5+2,none⟩=some (.slice az z.author.length cz)/\w'.cell? ⟨g7,p * 5+3,none⟩=some (.slice bz z.editor.length dz)/\w'.cell? ⟨g7,p * 5+4,none⟩=some (.slice fz z.fields.length hz'))/\(w'.cell? ⟨g,o+k * 5,none⟩=some (.string (bs x.key))/\w'.cell? ⟨g,o+k * 5+1,none⟩=some (.string (bs x.type))/\w'.cell? ⟨g,o+k * 5+2,none⟩=some (.slice aA x.author.length cA)/\w'.cell? ⟨g,o+k * 5+3,none⟩=some (.slice aS x.editor.length cS)/\w'.cell? ⟨g,o+k * 5+4,none⟩=some (.slice aF x.fields.length cF)/\g<w'.heap.size)/\(w'.cell? ⟨c2,0,none⟩=some (.slice aR C.ranks.length cR)/\w'.cell? ⟨c2,1,none⟩=some (.slice aO C.order.length cO)/\w'.cell? ⟨c2,2,none⟩=some (.string (bs [])))/\(g7<w'.heap.size/\c2<w'.heap.size)/\Kept wr w'):=fun w' h =>
       ⟨⟨(h.cell (p:=⟨g7,p * 5,none⟩) hglt).trans k0,(h.cell (p:=⟨g7,p * 5+1,none⟩) hglt).trans k1,(h.cell (p:=⟨g7,p * 5+2,none⟩) hglt).trans k2,(h.cell (p:=⟨g7,p * 5+3,none⟩) hglt).trans k3,(h.cell (p:=⟨g7,p * 5+4,none⟩) hglt).trans k4⟩,HCX.out w' (HKQ.out.trans h),⟨(HCB.out.kept (HKQ.out.trans h)).cell 0 _ rfl,(HCB.out.kept (HKQ.out.trans h)).cell 1 _ rfl,(HCB.out.kept (HKQ.out.trans h)).cell 2 _ rfl⟩,⟨Nat.lt_of_lt_of_le hglt h.size,(HCB.out.kept (HKQ.out.trans h)).lt⟩,h⟩
      have HCM:Hid (∀ w',Kept wr w'->Calls Tryz.prog 46 #[zhK z.key z.type (.slice az z.author.length cz) (.slice bz z.editor.length dz) (.slice fz z.fields.length hz'),zhK x.key x.type (.slice aA x.author.length cA) (.slice aS x.editor.length cS) (.slice aF x.fields.length cF),.slice aW ws.length cW,zmZ (.slice aR C.ranks.length cR) (.slice aO C.order.length cO) C.ignore] w' fun e w''=>e=.returned (.int .i64 (cfO C ws z x))/\Kept w' w''):=fun w' kk =>
       zxH z x _ _ _ _ _ _ _ _ _ ws C w' (zpA.kept kk) (zpE.kept kk) (zpF.kept kk) (HSL.out.1.1.kept (HKQ.out.trans kk)) (HSL.out.2.1.1.kept (HKQ.out.trans kk)) (HSL.out.2.2.1.kept (HKQ.out.trans kk)) hzf HFX.out (HSW4.out.kept (HKQ.out.trans kk)) (by omega) (HCOL.out.kept (HKQ.out.trans kk)) HSC.out
      rw[HIG.out] at HCM;unfold zhK zmZ at HCM;have HGS:Hid (0<cfO C ws z x->∀ z'∈S.drop p,0<cfO C ws z' x):=by
       show _->_;intro h z' hz'';obtain ⟨hp,e⟩:=List.getElem?_eq_some_iff.1 hz;rw[List.drop_eq_getElem_cons hp,e] at hz'';rcases List.mem_cons.1 hz'' with rfl|q
       ·exact h
       ·exact HGT.out z' (by rw[hqp];exact q)
      have HSW5:Hid (((S.take q ++ x :: S.drop q).set q z).set p x=S.take p ++ x :: S.drop p):=(by rw[hqp];exact zDw S x z p hz);have HST2:Hid (¬ 0<cfO C ws z x->zoC C ws (l.take (k+1))=S.take q ++ x :: S.drop q):=by
       show _->_;intro h;exact HSTOP.out (fun hh=>h (hh.2 z (by rw[hqp];exact hz)))
      have HIL:=Hd (zEH S x q hq);obtain ⟨n,HN⟩:∃ n,Hid (cfO C ws z x=n):=⟨_,rfl⟩;rw[HN.out] at HCM HGS HST2;obtain ⟨⟨y0,y1,y2,y3,y4⟩,⟨t0,t1,t2,t3,t4,tz⟩,⟨u0,u1,u2⟩,⟨yz,uz⟩,-⟩:=HCC.out wr (Kept.refl _);have hkd:Kept wr wr.drew:=zaB wr 1;have hp0:0<q:=(by omega);have hp1:(p:Int)<(S.length:Int)+1:=(by omega);have hp2:(0:Int)<=(p:Int):=(by omega);have hp3:IntKind.i64.wrap ((q:Int) - 1)=(p:Int):=(by rw[show (q:Int) - 1=p by omega];exact IntWalk.i64_in _ (by omega));have hp9:(0:Int)<=(q:Int):=(by omega);have hp10:(q:Int)<(S.length:Int)+1:=(by omega);have hp11:q<S.length+1:=(by omega);have hp4:p<S.length:=(by omega);have hp5:(k:Int)<(l.length:Int):=(by omega);have hp6:(0:Int)<=(k:Int):=(by omega);have hp7:(p:Int)<((S.length+1:Nat):Int):=(by omega);have hp8:p<S.length+1:=(by omega);clear hcells k0 k1 k2 k3 k4 zpA zpE zpF hzl hz HSTOP HGT hzf hglt hcl HN hq0 hqp;go_wp2_with fail
      go_region_held3 (fun w'=>(w'.cell? ⟨g7,p * 5,none⟩=some (.string (bs z.key))/\w'.cell? ⟨g7,p * 5+1,none⟩=some (.string (bs z.type))/\w'.cell? ⟨g7,p * 5+2,none⟩=some (.slice az z.author.length cz)/\w'.cell? ⟨g7,p * 5+3,none⟩=some (.slice bz z.editor.length dz)/\w'.cell? ⟨g7,p * 5+4,none⟩=some (.slice fz z.fields.length hz'))/\(w'.cell? ⟨g,o+k * 5,none⟩=some (.string (bs x.key))/\w'.cell? ⟨g,o+k * 5+1,none⟩=some (.string (bs x.type))/\w'.cell? ⟨g,o+k * 5+2,none⟩=some (.slice aA x.author.length cA)/\w'.cell? ⟨g,o+k * 5+3,none⟩=some (.slice aS x.editor.length cS)/\w'.cell? ⟨g,o+k * 5+4,none⟩=some (.slice aF x.fields.length cF)/\g<w'.heap.size)/\(w'.cell? ⟨c2,0,none⟩=some (.slice aR C.ranks.length cR)/\w'.cell? ⟨c2,1,none⟩=some (.slice aO C.order.length cO)/\w'.cell? ⟨c2,2,none⟩=some (.string (bs [])))/\(g7<w'.heap.size/\c2<w'.heap.size)/\Kept wr w')
       ((refine HCC.out _ ?_;assumption))
       (first|(go_at_call 46;refine (HCM.out _ hkd).mono ?_;rintro e w6 ⟨rfl,hk6⟩;have kA:Kept wr w6:=hkd.trans hk6;clear hk6))
      all_goals
       have HO6:=Hd (HOQ.out.kept zpG kA);have HZ6:Hid (SrcK (fun g'=>g'<w4.heap.size/\g7≠g') w6 [.string (bs z.key),.string (bs z.type),.slice az z.author.length cz,.slice bz z.editor.length dz,.slice fz z.fields.length hz'] z):=⟨_,_,_,rfl,HZL.out.sam (Sam.kept kA) (fun _ _ h=>h)⟩;have HK6:=Hd (HKQ.out.trans kA);by_cases hn:0<n
       ·have hnn:decide (0<n)=true:=decide_eq_true hn;have HG2:=Hd (HGS.out hn);clear y0 y1 y2 y3 y4 yz t0 t1 t2 t3 t4 tz u0 u1 u2 uz hkd;obtain ⟨⟨y0,y1,y2,y3,y4⟩,-,-,⟨yz,-⟩,-⟩:=HCC.out w6 kA;clear HCC kA HOQ HKQ HCM HGS HST2;go_wp2_with (first
         | (refine zd0 zpG rfl (.tmp 64) (.tmp 63) rfl HO6.out q (by rw[HIL.out];omega) [.string (bs z.key),.string (bs z.type),.slice az z.author.length cz,.slice bz z.editor.length dz,.slice fz z.fields.length hz'] z (by rfl) (by rfl) rfl Tryz.sizeS5 HZ6.out ?_;intro w8 hout8 hon8;have HO8:=Hd hout8;have HK8:Hid (Kept w4 w8):=HK6.out.trans' (hon8.below HK6.out.size (fun i e=>by rw[e];exact hg7));obtain ⟨t0,t1,t2,t3,t4,tz⟩:=HCX.out w8 HK8.out;have HX8:Hid (SrcK (fun g'=>g'<w4.heap.size/\g7≠g') w8 [.string (bs x.key),.string (bs x.type),.slice aA x.author.length cA,.slice aS x.editor.length cS,.slice aF x.fields.length cF] x):=⟨_,_,_,rfl,HSL.out.sam (Sam.kept HK8.out) (fun g hg q=>⟨q,fun e=>by have:=hg7;omega⟩)⟩;clear hout8 hon8)
         | (refine zd0 zpG rfl (.tmp 72) (.tmp 71) rfl HO8.out p (by rw[List.length_set,HIL.out];omega) [.string (bs x.key),.string (bs x.type),.slice aA x.author.length cA,.slice aS x.editor.length cS,.slice aF x.fields.length cF] x (by rfl) (by rfl) rfl Tryz.sizeS5 HX8.out ?_;intro w9 hout9 hon9;rw[HSW5.out] at hout9;have HO9:=Hd hout9;have HK9:Hid (Kept w4 w9):=HK8.out.trans' (hon9.below HK8.out.size (fun i e=>by rw[e];exact hg7));clear hout9 hon9))
        go_roundw
        case rel=>exact ⟨p,by omega,by go_num,HO9.out,HG2.out,HK9.out⟩
        case measure=>have:=HQP.out;simp [intOf];omega
       ·have hnn:decide (0<n)=false:=decide_eq_false hn;have HE:=HST2.out (by omega);have HO7:Hid (OutG SrcK 5 (fun g=>g<w4.heap.size) w4.heap.size 50 w6 (.slice (some ⟨g7,0,none⟩) (S.length+1) c7) (zoC C ws (l.take (k+1)))):=(by rw[HE];exact HO6.out);clear HE HCC kA HOQ HKQ HCM HGS HST2 HO6 HZ6 y0 y1 y2 y3 y4 yz t0 t1 t2 t3 t4 tz u0 u1 u2 uz hkd;go_wp2_with fail;go_roundw
        case rel=>exact ⟨k+1,by omega,by go_num,HO7.out,HK6.out⟩
        case measure=>simp [intOf];omega
   ·obtain rfl:k=l.length:=(by omega);rw[List.take_length] at HGR;have HF:=Hd (HFN.out _ wr (Srcs.outO HGR.out) (HK4.out.trans HKR.out));obtain ⟨ao,co,rfl,hco,hmo⟩:=HGR.out.form;clear HGR HFN;go_wp2_with fail
    (try go_ret2)
    exact HF.out
theorem zt5 (l:List SrcT) (y:StyT) (v vE:Value) (lang:Bs) (w:World) (hen:EnvC w) (hv:Srcs w v l) (hE:Prs w vE y.entries) (hl:l.length<=140737488355328) (hfs:∀ s∈l,FitS s) (hfy:FitY y) :
  Calls Tryz.prog 4 #[v,zeJ vE y,.string (bs lang)] w fun e w'=>e=.returned (.bool true)/\Kept w w':=by
 have HFW:=Hd (fun w' (k:Kept w w')=>zAq l y v vE w' (hv.kept k) (hE.kept k) hl hfs hfy);unfold FewP at HFW;have HAW:=Hd (fun w' (k:Kept w w')=>zt3 w' (hen.kept k));have HOR:=Hd (fun l' v' w' (k:Kept w w') (h:Srcs w' v' l') (h1:l'.length<=19) (h2:∀ s∈l',FitL s) (h3:FewY y)=>zrX v' vE l' y lang w' (hen.kept k) h h1 h2 (hE.kept k) h3.small);unfold OrdP at HOR;have HRO:=Hd (fun w' (k:Kept w w') (h1:l.length<=19) (h2:∀ s∈l,FitL s) (h3:FewY y)=>zxK v vE l y lang w' (hv.kept k) h1 h2 (hE.kept k) h3.small);unfold OrdQ at HRO;have HSO:=Hd (fun v v' xs ys w' (h1:Srcs w' v xs) (h2:Srcs w' v' ys) (h3:xs.length<=19) (h4:ys.length<=19) (h5:∀ s∈xs,FitL s) (h6:∀ s∈ys,FitL s)=>zpQ v v' xs ys w' h1 h2 (by omega) (by omega) (fun s hs=>by have:=h5 s hs;unfold FitL at this;omega) (fun s hs=>by have:=h6 s hs;unfold FitL at this;omega));obtain ⟨aE,cE,rfl,zE⟩:=hE.form;obtain ⟨a,c,rfl,zV⟩:=(show ∃ a c,v=.slice a l.length c/\l.length<=c by obtain ⟨a,c,e,q,_⟩:=hv;exact ⟨a,c,e,q⟩);have HV:=Hd hv;have hka:=zaA w (.cells (zaE (.slice aE y.entries.length cE) y) 33);have HY0:=Hd (Blk.new w 33 (zaE (.slice aE y.entries.length cE) y));have HK0:=Hd hka;unfold zeJ at HFW HOR HRO ⊢;unfold zaE at HFW HOR HRO HY0 HK0 ⊢;clear hka hen hv hE hfs hfy;go_enter Tryz.func4,Tryz.ntmps4;go_wp2_with fail;generalize w.alloc _=W0 at *;obtain ⟨S,HSS⟩:∃ S,Hid (w.heap.size=S):=⟨_,rfl⟩;rw[HSS.out] at HY0 ⊢;refine (HFW.out W0 HK0.out).mono ?_;rintro e w1 ⟨b,rfl,hb,hk1⟩;have HK1:=Hd (HK0.out.trans hk1);have HY1:=Hd (HY0.out.kept hk1);clear hk1 HFW HY0 HK0;cases b with
 | false =>
  go_wp2_with fail;refine (HAW.out w1 HK1.out).mono ?_;rintro e w2 ⟨rfl,hk2⟩;have HK2:=Hd (HK1.out.trans hk2);clear hk2;go_wp2_with fail
  (try go_ret)
  exact ⟨rfl,HK2.out⟩
 | true =>
  obtain ⟨hl8,hfl,hfy⟩:=hb rfl;have HFL:=Hd hfl;have HFY:=Hd hfy;clear hb hfl hfy;have c0:=HY1.out.cell 0 _ rfl;have c1:=HY1.out.cell 1 _ rfl;have c2:=HY1.out.cell 2 _ rfl;have c3:=HY1.out.cell 3 _ rfl;have c4:=HY1.out.cell 4 _ rfl;have c5:=HY1.out.cell 5 _ rfl;have c6:=HY1.out.cell 6 _ rfl;have c7:=HY1.out.cell 7 _ rfl;have c8:=HY1.out.cell 8 _ rfl;have c9:=HY1.out.cell 9 _ rfl;go_wp2_with fail;refine (HOR.out l _ w1 HK1.out (HV.out.kept HK1.out) (by omega) HFL.out HFY.out).mono ?_;clear c0 c1 c2 c3 c4 c5 c6 c7 c8 c9;have hol:(zoF y lang l).2.length<=19:=by
   unfold zoF
   split
   ·show (zoC _ _ l).length<=19;rw[zpN];omega
   ·simp
  have HFO:Hid (∀ s∈(zoF y lang l).2,FitL s):=by
   show ∀ s∈_,_;unfold zoF
   split
   ·intro s hs;exact HFL.out s ((zmK _ _ l).mem_iff.1 hs)
   ·intro s hs;cases hs
  obtain ⟨O,HO⟩:∃ O,Hid ((zoF y lang l).2=O):=⟨_,rfl⟩;obtain ⟨E,HE⟩:∃ E,Hid ((zoF y lang l).1=E):=⟨_,rfl⟩;rw[HO.out] at hol HFO HRO ⊢;rw[HE.out] at HRO ⊢;clear HO HE HOR;rintro e w2 ⟨vO,rfl,ho,hk2⟩;have hs2:=Srcs.outO ho;have HK2:=Hd (HK1.out.trans hk2);have HY2:=Hd (HY1.out.kept hk2);have HS2:=Hd hs2;obtain ⟨aO,cO,rfl,zO⟩:=(show ∃ a c,vO=.slice a O.length c/\O.length<=c by obtain ⟨a,c,e,q,_⟩:=hs2;exact ⟨a,c,e,q⟩);have c0:=HY2.out.cell 0 _ rfl;have c1:=HY2.out.cell 1 _ rfl;have c2:=HY2.out.cell 2 _ rfl;have c3:=HY2.out.cell 3 _ rfl;have c4:=HY2.out.cell 4 _ rfl;have c5:=HY2.out.cell 5 _ rfl;have c6:=HY2.out.cell 6 _ rfl;have c7:=HY2.out.cell 7 _ rfl;have c8:=HY2.out.cell 8 _ rfl;have c9:=HY2.out.cell 9 _ rfl;clear ho hk2 hs2 HK1 HY1;simp only;go_wp2_with fail;refine (HRO.out w2 HK2.out (by omega) HFL.out HFY.out).mono ?_;rintro e w3 ⟨vO2,rfl,ho3,hk3⟩;have HK3:=Hd (HK2.out.trans hk3);have HS3:=Hd ho3;have HS23:=Hd (HS2.out.kept hk3);obtain ⟨aP,cP,rfl,zP⟩:=(show ∃ a c,vO2=.slice a O.length c/\O.length<=c by obtain ⟨a,c,e,q,_⟩:=ho3;exact ⟨a,c,e,q⟩);clear ho3 hk3 HK2 HY2 HS2 c0 c1 c2 c3 c4 c5 c6 c7 c8 c9 HRO;simp only;go_wp2_with fail;refine (HSO.out _ _ O O w3 HS23.out HS3.out (by omega) (by omega) HFO.out HFO.out).mono ?_;rintro e w4 ⟨rfl,hk4⟩;have HK4:=Hd (HK3.out.trans hk4);rw[show decide (O=O)=true from decide_eq_true rfl];have hee:(E == E)=true:=(by simp);clear hk4 HK3 HS3 HS23;go_wp2_with fail;refine (HAW.out w4 HK4.out).mono ?_;rintro e w9 ⟨rfl,hk9⟩;have HK9:=Hd (HK4.out.trans hk9);clear hk9;go_wp2_with fail
  (try go_ret)
  exact ⟨rfl,HK9.out⟩
end Go.Proofs.YtmcoomlkbgiboaaGreatDoor
namespace Go.Proofs.YtmcoomlkbgiboaaGreatDoor
open Go.ChangeShapes Go.WideShapes Go.ChangeAt Go.RowKit
theorem Tryz.ownNone:ownKnob Tryz.prog.godebug=none:=by kernel_rfl
theorem Tryz.laidOut:laidOutB Tryz.prog=true:=by kernel_rfl
section
variable {H:Type} {enc:TypeId × Value->H} {P:Program}
theorem zi4 (hl:laidOutB P=true) {W W':World} {sp:Nat->Bool}:∀ {ts:List TypeId} {vs:List Value} {ds:List (DataW H)} {p:List MemPlace},
  (∀ t∈ts,P.readableRec t=true/\t<P.types.size)->DataW.TrodAll enc P W 0 (fun _=>true) true ts vs ds p->(∀ x∈p,W.sameAt W' x)->(∀ x∈p,sp x.block=true)->DataW.TrodAll enc P W' 0 sp true ts vs ds p
 | [],vs,ds,p,_,h,_,_=>by
  obtain ⟨rfl,rfl,rfl⟩:=trodAll_nil h;exact trodAll_mk0
 | t :: ts,vs,ds,p,hr,h,hs,hp=>by
  obtain ⟨v,vs',d,ds',p1,p2,rfl,rfl,rfl,h0,h1⟩:=trodAll_cons h;have h0':=WideElems.Trod_stays hl (hr t (by simp)).1 (hr t (by simp)).2 h0 (fun x hx=>hs x (by simp [hx])) (sp':=sp) (fun x hx=>hp x (by simp [hx]));exact trodAll_cons_mk h0' (zi4 hl (fun t ht=>hr t (by simp [ht])) h1 (fun x hx=>hs x (by simp [hx])) (fun x hx=>hp x (by simp [hx])))
theorem zDx {f:Func} {s:ChangeSpec} {apart fresh handsOn again:Bool} {W W':World} {args:Array Value} {ds gs:List (DataW H)} {zaO:List MemPlace} {bt:TypeId}
  (hl:laidOutB P=true) (hread:∀ t∈f.params.toList,P.readableRec t=true/\t<P.types.size) (hr:f.resultTypes=#[bt]) (hbt:P.underlying bt=some .bool) (hsv:s.vars=[])
  (hW:DataW.Whole enc P f.params.toList s.vars apart W args.toList ds gs zaO) (hs:s.fn H ds={ results:=[.lit (.bool true)],args:=ds }) (hb:Kept W W') :
  s.post enc P f apart fresh handsOn again W args (.bool true) W':=by
 have hW':=hW;have hlt:∀ p∈zaO,p.block<W.heap.size:=fun p hp=>hW'.lt p hp;have hold:∀ p∈zaO,(fun b=>decide (b<W.heap.size)) p.block=true:=fun p hp=>(by simpa using hlt p hp);obtain ⟨pa,pv,hA,hV,hbe,hz,hn⟩:=hW;rw[hsv] at hV;obtain ⟨rfl,rfl⟩:=trodVars_none hV;rw[List.append_nil] at hbe;subst hbe;have hs':s.fn H (ds ++ [])={ results:=[.lit (.bool true)],args:=ds }:=(by rw[List.append_nil];exact hs);have hres:∀ (b:Nat) (sp:Nat->Bool) (hd:Bool),DataW.TrodAll enc P W' b sp hd f.resultTypes.toList ((Value.bool true).resultList f.resultTypes.size) (s.fn H (ds ++ [])).results []:=by
  intro b sp hd;rw[hs',hr];exact trodAll_cons_mk (shut_bool hbt _) trodAll_mk0
 have hargs:∀ sp:Nat->Bool,(∀ p∈zaO,sp p.block=true)->DataW.TrodAll enc P W' 0 sp true f.params.toList args.toList (s.fn H (ds ++ [])).args zaO:=by
  intro sp hsp;rw[hs'];exact zi4 hl hread hA (fun x hx=>hb.same (hlt x hx)) hsp
 have hvars:∀ sp:Nat->Bool,DataW.TrodVars enc P W' sp s.vars (s.fn H (ds ++ [])).vars []:=by
  intro sp;rw[hs',hsv];rfl
 have hok:=ok_one (P:=P) (W':=W') (v:=.bool true) hr rfl (okWide_bool_mk hbt _);refine ⟨ds,[],zaO,[],zaO,[],hW',hres _ _ _,hargs _ hold,hvars _,World.keptBut_mono (fun p hp=>⟨hp,?_⟩) (hb.frame (· ∈ zaO)),fun _=>?_⟩
 ·exact Or.inr (Or.inl hp)
 ·refine ⟨hok,_,_,([] ++ zaO) ++ [],⟨[] ++ zaO,[],trodAll_append (hargs _ (fun _ _=>rfl)) (hres _ _ _),hvars _,rfl,?_,?_⟩,?_⟩
  ·intro b off hp;have hin:MemPlace.cell b off∈zaO:=(by simpa using hp);rw[hb.frozen (hlt _ hin)];exact hz b off hin
  ·intro ha;have:=hn ha;simpa using this
  ·intro p hp _;simpa using hp
end
theorem zFw {W:World} (h:W.ShapedOpen Tryz.prog):Gnd W :=
 Go.Proofs.cell_of_shapedOpen_int (zero:=#[.int .i64 0]) (t:=3) h (of_decide_eq_true (by kernel_rfl)) (by kernel_rfl) rfl (by kernel_rfl) (by kernel_rfl) Tryz.underlying3
def firstCells:Array Value:=(Go.Pinned.utf8FirstZ.map fun (n:Nat)=>Value.int .u8 (n:Int)).toArray
def zt6:Array Value:=#[.int .u8 128,.int .u8 191,.int .u8 160,.int .u8 191,.int .u8 128,.int .u8 159,.int .u8 144,.int .u8 191,.int .u8 128,.int .u8 143,.int .u8 0,.int .u8 0,.int .u8 0,.int .u8 0,.int .u8 0,.int .u8 0,.int .u8 0,.int .u8 0,.int .u8 0,.int .u8 0,.int .u8 0,.int .u8 0,.int .u8 0,.int .u8 0,.int .u8 0,.int .u8 0,.int .u8 0,.int .u8 0,.int .u8 0,.int .u8 0,.int .u8 0,.int .u8 0]
def zfX (cs:Array Value):Obj->Obj
 | .cells _ t frozen=>.cells cs t frozen
 | o=>o
end Go.Proofs.YtmcoomlkbgiboaaGreatDoor
