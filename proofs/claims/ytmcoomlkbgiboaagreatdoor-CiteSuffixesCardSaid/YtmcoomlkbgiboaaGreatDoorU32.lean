/- Steps of regions that draw their order; a cut behind such a region; rows of whole numbers; a map of one key. No condition. -/
import Derived.Test.YtmcoomlkbgiboaaGreatDoorU26
import Derived.Test.YtmcoomlkbgiboaaGreatDoorU11
import Derived.Test.YtmcoomlkbgiboaaGreatDoorU20
import Derived.Test.YtmcoomlkbgiboaaGreatDoorU15
import Derived.Test.YtmcoomlkbgiboaaGreatDoorU29
import Derived.Test.YtmcoomlkbgiboaaGreatDoorU31
import Derived.Test.YtmcoomlkbgiboaaGreatDoorU21
import Derived.Test.YtmcoomlkbgiboaaGreatDoorU19
import Derived.Test.YtmcoomlkbgiboaaGreatDoorU24
import Derived.Test.YtmcoomlkbgiboaaGreatDoorU22
import Derived.Test.YtmcoomlkbgiboaaGreatDoorU01
set_option linter.all false
set_option maxRecDepth 100000
set_option maxHeartbeats 12800000
namespace Go.Proofs.YtmcoomlkbgiboaaGreatDoor
open Go.RowKit
section
variable {α β:Type} {R:(Nat->Prop)->World->List Value->α->Prop} {R':(Nat->Prop)->World->List Value->β->Prop} {k k':Nat} {A A':Nat->Prop} {base base':Nat} {e e':TypeId} {w w':World} {v v':Value} {xs:List α} {ys:List β}
theorem OutG.ne_blk (h:OutG R k A base e w v xs) {b:Nat} {t:TypeId} {cs:Array Value} (hb:Blk w b t cs) (hne:e≠t):v.ownBlock≠some b:=by
 intro hg;obtain ⟨_,_,_,ho,_⟩:=h;rcases ho.2 with ⟨hv,_⟩|⟨g1,_,cur,hv,_,hbb,_⟩
 ·rw[hv] at hg;cases hg
 ·rw[hv] at hg;have e1:g1=b:=(by simpa [Value.ownBlock] using hg);rw[e1] at hbb;have h2:w.heap[b]? = some (.cells cs t (0,0)):=hb;rw[h2] at hbb;cases hbb;exact hne rfl
theorem zeJ {P:Program} (hR:ReadK R) {ops:Array Oper} {o:Oper} {a:Act} {K:Act->World->Prop} {Q:Exit->Act->World->Prop} {E:Prop} (hgd:o.guard=none) (s x:Operand) (t:TypeId)
  (ho:o.op=.call { callee:=.builtin .append,args:=#[s,x],argTypes:=#[t,t] })
  (i:TypeInfo) (z:Value) (bytes:Nat) (ht:P.underlying t=some (.slice e)) (hi:P.info? e=some i) (hz:i.zero=some z) (hsize:i.size=k) (hby:i.bytes=bytes) (hzs:z.cells.size=k) (hsz:0<k)
  (hs:a.eval s=v) (hown:OutG R k A base e w v xs) (g0:Nat) (cs:List Value) (y:α) (hx:a.eval x=.slice (some ⟨g0,0,none⟩) 1 1) (hb:∀ j u,cs[j]? = some u->w.cell? ⟨g0,j,none⟩=some u) (hcl:cs.length=k)
  (hy:R (fun g=>A g/\v.ownBlock≠some g) w cs y) (h63:xs.length+1<=maxLen) (hbytes:(xs.length+1) * bytes<=140737488355328) (hbase:base<=w.heap.size) (H:Nat) (hH:w.heap.size=H)
  (h:∀ g cap w',OutG R k A base e w' (.slice (some ⟨g,0,none⟩) (xs.length+1) cap) (xs ++ [y])->w.grownBy w' v.ownBlock->(v.ownBlock=some g\/g=H)->g<w'.heap.size->K (a.put o.dst (.slice (some ⟨g,0,none⟩) (xs.length+1) cap)) w') :
  if Region.wanted o (yielded ops a.tmps)=true then Oper.wp P o a w K Q else E:=by
 obtain ⟨css,h1,h2,ho2,h4⟩:=hown;refine step_append_lies w hgd s x t ho base e i z k bytes ht hi hz hsize hby hzs hsz v xs.length css.flatten hs ho2 ⟨g0,0,none⟩ 1 1 cs hx (by rw[hcl,Nat.one_mul]) (fun j u hu=>by rw[zeI,Nat.zero_add];exact hb j u hu) (hR.one hy) (by omega) h63 hbytes hbase H hH ?_;intro g cap w' q1 q2 q3 q4;refine h g cap w' ?_ q2 q3 q4;subst hH;exact OutG.app (ys:=[y]) (css2:=[cs]) hR h1 h2 h4 rfl (fun c hc=>by simp at hc;subst hc;exact hcl) (fun j c u hc hu=>by
  cases j with
  | zero=>cases hc;cases hu;exact hy
  | succ j=>simp at hc) (by simpa using q1) q2 q3
end
section
variable {P:Program} {tm ti te:TypeId}
theorem zB3 (hm:P.underlying tm=some (.map ti te)) (hi:P.underlying ti=some .string) (w:World) (m:Nat) (es:List (Bs × Value)) (k:Bs) (z:Value) (hz:(zeroValue te).run P w=.ok z w) (h:MapT w m es) :
  (Instr.lookup tm (.map (some m)) (.string (bs k)) false).run P w=.ok ((zdV es k).getD z) w:=by
 unfold MapT at h;unfold Instr.lookup;simp only[Sem.run_bind,run_underlying hm,Result.andThen];rcases zE2 hi w es k with ⟨g1,g2⟩|⟨n,v,g1,_,g3,_⟩
 ·simp only[getObj,Sem.run_bind,Sem.run,h,Result.andThen,Sem.run_pure,zfA hi,g2,g1,hz];simp [Sem.run_pure]
 ·simp only[getObj,Sem.run_bind,Sem.run,h,Result.andThen,Sem.run_pure,zfA hi,g3,g1];simp [Sem.run_pure]
theorem upT (hm:P.underlying tm=some (.map ti te)) (hi:P.underlying ti=some .string) (w:World) (m:Nat) (es:List (Bs × Value)) (k:Bs) (v:Value) (h:MapT w m es) :
  ∃ es',(∀ k',zdV es' k'=if k'=k then some v else zdV es k')/\(Instr.mapUpdate tm (.map (some m)) (.string (bs k)) v).run P w=.ok () (zsX w m es'):=by
 cases hk:zdV es k with
 | none=>exact ⟨es ++ [(k,v)],zqX hk v,zFs hm hi w m es k v h hk⟩
 | some v0=>exact zBp hm hi w m es k v v0 h hk
end
structure EnvC (w:World):Prop where
 gnd:Gnd w
 tab:Lib.TabIs Tryz.prog w "internal/strconv.uint64pow10" .u64 Lib.pow10Tab
 asc:Lib.TabIs Tryz.prog w "strings.asciiSpace" .u8 Lib.asciiSpaceTab
theorem EnvC.kept {w w':World} (h:EnvC w) (k:Kept w w'):EnvC w':=⟨h.gnd.kept k,zeO h.tab k,Lib.tabBelow_of_tabIs h.asc w' k⟩
theorem zB4 {α β:Type} {f:α->β} {l:List α} {k:Nat} {x:α} (h:l[k]? = some x):(l.take (k+1)).map f=(l.take k).map f ++ [f x]:=by
 rw[List.take_succ,h,List.map_append];rfl
theorem Tryz.infoSor:(Tryz.prog.info? 86).map (fun i=>(i.zero,i.size,i.bytes))=some (some (.agg #[.string ⟨#[]⟩,.int .i64 0,.string ⟨#[]⟩,.string ⟨#[]⟩,.string ⟨#[]⟩,.string ⟨#[]⟩,.slice none 0 0,.slice none 0 0,.slice none 0 0]),9,160):=by kernel_rfl
theorem Tryz.infoSo5:(Tryz.prog.info? 50).map (fun i=>(i.zero,i.size,i.bytes))=some (some (.agg #[.string ⟨#[]⟩,.string ⟨#[]⟩,.slice none 0 0,.slice none 0 0,.slice none 0 0]),5,104):=by kernel_rfl
def OrdP (r:Int × List SrcT) (w:World) (e:Ending) (w':World):Prop:=∃ v,e=.returned (.tuple #[v,.int .i64 r.1])/\OutG SrcK 5 (fun g=>w.heap.size<=g) w.heap.size 50 w' v r.2/\Kept w w'
theorem zz3 (v vE:Value) (l:List SrcT) (y:StyT) (lang:Bs) (w:World) (hen:EnvC w) (hv:Srcs w v l) (hl:l.length<=19) (hfit:∀ s∈l,FitL s) (hE:Prs w vE y.entries) (hy:SmallY y) :
  Calls Tryz.prog 15 #[v,zdU vE y,.string (bs lang)] w (OrdP (zC1 y lang l) w):=by
 obtain ⟨i0,hi,hz0,hz1,hz2⟩:=info_parts Tryz.infoSor;obtain ⟨i5,hi5,hz50,hz51,hz52⟩:=info_parts Tryz.infoSo5;obtain ⟨a,c,rfl,hc⟩:=(show ∃ a c,v=.slice a l.length c/\l.length<=c by obtain ⟨a,c,e,q,_⟩:=hv;exact ⟨a,c,e,q⟩);obtain ⟨aE,cE,rfl,lE⟩:=(show ∃ a c,vE=.slice a y.entries.length c/\y.entries.length<=c by obtain ⟨a,c,e,q,_⟩:=hE;exact ⟨a,c,e,q⟩);have HK0:=Hd (zaA w (.cells (zaD (.slice aE y.entries.length cE) y) 33));have HY0:=Hd (Blk.new w 33 (zaD (.slice aE y.entries.length cE) y));have HCH:=Hd (fun w' (k:Kept w w')=>zjA (.slice aE y.entries.length cE) y w' (hen.gnd.kept k) hy (hE.kept k));have HEN:=Hd hen;have HV:=Hd hv;have HFT:=Hd hfit;have HFIN0:Hid (zdZ y≠0->∀ w',Kept w w'->OrdP (zC1 y lang l) w (.returned (.tuple #[.slice none 0 0,.int .i64 (zdZ y)])) w'):=fun h w' k=>by
  unfold zC1;rw[if_neg h];exact ⟨_,rfl,OutG.nil _ _ _ _ _ _,k⟩
 have HFIN1:Hid (zdZ y=0->∀ u w',OutG SrcK 5 (fun g=>w.heap.size<=g) w.heap.size 50 w' u (zC0 (zw3 lang) (wsY y) l)->Kept w w'->OrdP (zC1 y lang l) w (.returned (.tuple #[u,.int .i64 0])) w'):=fun h u w' h1 k=>by
  unfold zC1;rw[if_pos h];exact ⟨_,rfl,h1,k⟩
 generalize OrdP (zC1 y lang l) w=P at *;clear hen hv hfit hE;obtain ⟨B,HBB⟩:∃ B,Hid (w.heap.size=B):=⟨_,rfl⟩;have hwB:w.heap.size<=B:=(by rw[HBB.out];exact Nat.le_refl _);have HB10:=Hd (zcC HY0.out);unfold zdU zaD at HCH;unfold zaD at HK0;unfold zdU zaD;go_enter Tryz.func15,Tryz.ntmps15;go_upto_region 1 with fail;rw[HBB.out] at HY0 HB10;rw[HBB.out];unfold zaD at HY0 HB10;generalize w.alloc _=w0 at *;have hBw0:B<w0.heap.size:=HY0.out.lt;obtain ⟨⟨b0,b1,b2,b3,b4,b5,b6,b7,b8,b9⟩,bz⟩:=HB10.out;have HCX:=Hd (HCH.out w0 HK0.out);clear HCH;go_wp2_with fail;refine HCX.out.mono ?_;rintro e w1 ⟨rfl,hk1⟩;have HK1:=Hd (HK0.out.trans hk1);have HY1:=Hd (HY0.out.kept hk1);clear hk1 HCX HY0 HK0 HB10 b0 b1 b2 b3 b4 b5 b6 b7 b8 b9 bz;by_cases he:¬ zdZ y=0
 ·have hne:(zdZ y == 0)=false:=(by rw[beq_eq_false_iff_ne];exact he);have hnb:(zdZ y != 0)=true:=(by rw[bne_iff_ne];exact he);have HF:=Hd (HFIN0.out he w1 HK1.out);generalize zdZ y=E at *;go_wp2_with fail
  (try go_ret2)
  exact HF.out
 ·have he:zdZ y=0:=Decidable.not_not.1 he;have HFN:=Hd (HFIN1.out he);have HWS:=Hd (znV (zrK he));have hBw1:B<w1.heap.size:=HY1.out.lt;rw[he];clear HFIN0 HFIN1;go_wp2_with fail;go_loopw [9,27] (fun o i wr=>∃ (k:Nat),k<=l.length/\i=.int .i64 k/\Hid (OutG SorK 9 (fun g=>g<w1.heap.size) w1.heap.size 86 wr o ((l.take k).map zjG))/\Hid (Kept w1 wr)) (fun _ i _=>l.length - (intOf i).toNat)
  case atStart=>exact ⟨0,Nat.zero_le _,rfl,OutG.nil _ _ _ _ _ _,Kept.refl _⟩
  case round =>
   obtain ⟨k,hk,rfl,HGR,HKR⟩:=hrel;by_cases hlt:k<l.length
   ·obtain ⟨x,hx⟩:∃ x,l[k]? = some x:=⟨_,List.getElem?_eq_getElem hlt⟩;have hft:=HFT.out x (List.mem_of_getElem? hx);have HT:=Hd (zB4 (f:=zjG) hx);obtain ⟨us,HUS⟩:∃ us,Hid ((l.take k).map zjG=us):=⟨_,rfl⟩;have hul:us.length<=19:=(by rw[<- HUS.out,List.length_map,List.length_take];omega);rw[HUS.out] at HGR HT;obtain ⟨g,o,vA,vE,vF,rfl,hg,e0,e1,e2,e3,e4,pA,pE,pF⟩:=Srcs.at_ (HV.out.kept HK1.out) k x hx;have c0:=(HKR.out.cell (p:=⟨g,o+k * 5,none⟩) hg).trans e0;have c1:=(HKR.out.cell (p:=⟨g,o+k * 5+1,none⟩) hg).trans e1;have c2:=(HKR.out.cell (p:=⟨g,o+k * 5+2,none⟩) hg).trans e2;have c3:=(HKR.out.cell (p:=⟨g,o+k * 5+3,none⟩) hg).trans e3;have c4:=(HKR.out.cell (p:=⟨g,o+k * 5+4,none⟩) hg).trans e4;have HSL:Hid (SrcL (fun g=>g<w1.heap.size) w1 vA vE vF x):=⟨⟨pA,pA.ltB⟩,⟨pE,pE.ltB⟩,pF,pF.ltB⟩;obtain ⟨aA,cA,rfl,lA⟩:=pA.shape;obtain ⟨aS,cS,rfl,lS⟩:=pE.shape;obtain ⟨aF,cF,rfl,lF⟩:=(show ∃ a c,vF=.slice a x.fields.length c/\x.fields.length<=c by obtain ⟨a,c,e,l,_⟩:=pF;exact ⟨a,c,e,l⟩);have hgr:g<wr.heap.size:=Nat.lt_of_lt_of_le hg HKR.out.size;have HKA:=Hd (zaA wr (.cells #[.string (bs x.key),.string (bs x.type),.slice aA x.author.length cA,.slice aS x.editor.length cS,.slice aF x.fields.length cF] 50));have HIB:=Hd (Blk.new wr 50 #[.string (bs x.key),.string (bs x.type),.slice aA x.author.length cA,.slice aS x.editor.length cS,.slice aF x.fields.length cF]);have HFD:=Hd (fun w' (kk:Kept w1 w')=>zlH x.key x.type (.slice aA x.author.length cA) (.slice aS x.editor.length cS) (.slice aF x.fields.length cF) x.fields zhC w' (pF.kept kk) (by have:=hft.2.2.1;omega));unfold FieldPost zhC at HFD;have HAU:=Hd (fun w' (kk:Kept w1 w')=>zq9 (.slice aA x.author.length cA) (.slice aS x.editor.length cS) (.slice aF x.fields.length cF) x w' (pA.kept kk) (pE.kept kk) rfl (by have:=zrI hft;omega) (fun q hq=>by have:=hft.2.2.2.2.2 q (zrH x q hq);omega) (by have:=zrJ hft;omega));have HYR:=Hd (fun w' (kk:Kept w1 w')=>zqY x.key x.type (.slice aA x.author.length cA) (.slice aS x.editor.length cS) (.slice aF x.fields.length cF) x.fields w' (pF.kept kk) (by have:=hft.2.2.1;omega) (by have:=zo7 hft.2.2.2.2.1 kYr;unfold kYr at this;omega));have HSO:Hid (zjG x=⟨⟨zf7 x,zdW ((za5 x.fields [121,101,97,114]).getD []),(za5 x.fields [116,105,116,108,101]).getD [],x.key⟩,x⟩):=rfl;rw[HSO.out] at HT;generalize zf7 x=au at *;generalize zdW ((za5 x.fields [121,101,97,114]).getD [])=yr at *;obtain ⟨tt,HTT⟩:∃ tt,Hid ((za5 x.fields [116,105,116,108,101]).getD []=tt):=⟨_,rfl⟩;rw[HTT.out] at HT HFD;generalize (za5 x.fields [116,105,116,108,101]).isSome=tb at *;clear e0 e1 e2 e3 e4 pA pE pF hx hft HSO HTT;go_wp2_with fail;refine (HFD.out _ (HKR.out.trans HKA.out)).mono ?_;rintro e w3 ⟨rfl,hk3⟩;have HK3:=Hd ((HKR.out.trans HKA.out).trans hk3);have HI3:=Hd (HIB.out.kept hk3);have HG3:=Hd ((HGR.out.kept zpR HKA.out).kept zpR hk3);obtain ⟨I,HII⟩:∃ I,Hid (wr.heap.size=I):=⟨_,rfl⟩;rw[HII.out] at HI3 ⊢;clear hk3 HFD HKA HIB HGR HKR c0 c1 c2 c3 c4 hgr HII;go_upto_region 9 with fail;refine zB0 x (.slice aA x.author.length cA) (.slice aS x.editor.length cS) (.slice aF x.fields.length cF) I tt au yr (by kernel_rfl) ⟨_,rfl,rfl,rfl,rfl⟩ ⟨_,rfl,rfl,rfl,rfl⟩ ⟨_,rfl,rfl,rfl,rfl⟩ ⟨_,rfl,rfl,rfl,rfl⟩ ⟨_,rfl,rfl,rfl,rfl⟩ ⟨_,rfl,rfl,rfl,rfl⟩ ⟨_,rfl,rfl,rfl,rfl⟩ ⟨_,rfl,rfl,rfl,rfl⟩ ⟨_,rfl,rfl,rfl,rfl⟩ ⟨_,rfl,rfl,rfl,rfl⟩
     (by simp) rfl rfl HI3 (fun w' kk=>HAU.out w' (HK3.out.trans kk)) (fun w' kk=>HYR.out w' (HK3.out.trans kk)) ?_
    intro V w4 TB hV hTB hkb hk4;simp only[Act.put,List.setIfInBounds_toArray,List.set_cons_zero,List.set_cons_succ];rw[hV];have HK4:=Hd (HK3.out.trans hk4);have HI4:=Hd (HI3.out.kept hk4);have HTB:=Hd hkb;have t0:=HTB.out.cell 0 _ rfl;have t1:=HTB.out.cell 1 _ rfl;have t2:=HTB.out.cell 2 _ rfl;have t3:=HTB.out.cell 3 _ rfl;have tz:=HTB.out.lt;have i0':=HI4.out.cell 0 _ rfl;have i1':=HI4.out.cell 1 _ rfl;have i2':=HI4.out.cell 2 _ rfl;have i3':=HI4.out.cell 3 _ rfl;have i4':=HI4.out.cell 4 _ rfl;have iz:=HI4.out.lt;have hka:=zaA w4 (.cells #[.string (bs au),.int .i64 yr,.string (bs tt),.string (bs x.key),.string (bs x.key),.string (bs x.type),.slice aA x.author.length cA,.slice aS x.editor.length cS,.slice aF x.fields.length cF] 86);have HROW:=Hd (Blk.new w4 86 #[.string (bs au),.int .i64 yr,.string (bs tt),.string (bs x.key),.string (bs x.key),.string (bs x.type),.slice aA x.author.length cA,.slice aS x.editor.length cS,.slice aF x.fields.length cF]);have HG6:=Hd ((HG3.out.kept zpR hk4).kept zpR hka);have HKA:=Hd (HK4.out.trans hka);obtain ⟨ar,cr,rfl,hcr,hmr⟩:=HG3.out.form;have HYY:Hid (SorK (fun g=>g<w1.heap.size/\(Value.slice ar us.length cr).ownBlock≠some g) _ [.string (bs au),.int .i64 yr,.string (bs tt),.string (bs x.key),.string (bs x.key),.string (bs x.type),.slice aA x.author.length cA,.slice aS x.editor.length cS,.slice aF x.fields.length cF] ⟨⟨au,yr,tt,x.key⟩,x⟩) :=
     ⟨_,_,_,rfl,HSL.out.sam (Sam.kept HKA.out) (fun g _ q=>⟨q,fun e=>by have:=(HG3.out.blk g e).1;omega⟩)⟩
    have hbz:w1.heap.size<=(w4.alloc (.cells #[.string (bs au),.int .i64 yr,.string (bs tt),.string (bs x.key),.string (bs x.key),.string (bs x.type),.slice aA x.author.length cA,.slice aS x.editor.length cS,.slice aF x.fields.length cF] 86)).heap.size:=HKA.out.size;clear hV hTB hkb hk4 hka HK3 HI3 HG3 HSL HAU HYR HK4;go_wp2_with (at_builtin;refine zjE ?_);refine Hd ?_;refine zaQ zpR rfl (.tmp 44) (.tmp 48) 78 rfl i0 _ 160 Tryz.underlying78 hi hz0 hz1 hz2 rfl (by omega) (by rfl) HG6.out w4.heap.size _ _ (by rfl) (fun j u hu=>HROW.out.cell j u (by rw[<- Array.getElem?_toList];exact hu)) rfl HYY.out (by unfold maxLen;omega) (by omega) hbz _ rfl ?_;intro g7 c7' w7 hout7 hgrow7 hat7 hlt7;have HOUT8:Hid (OutG SorK 9 (fun g=>g<w1.heap.size) w1.heap.size 86 w7 (.slice (some ⟨g7,0,none⟩) (us.length+1) c7') ((l.take (k+1)).map zjG)):=(by rw[HT.out];exact hout7);have HK7:Hid (Kept w1 w7):=HKA.out.trans' ((Only.grown hgrow7).below HKA.out.size (fun i q=>(HG6.out.blk i q.symm).1));clear hout7 hgrow7 hat7 hlt7 HROW HG6 HKA HYY hbz t0 t1 t2 t3 tz i0' i1' i2' i3' i4' iz HI4 HTB;go_wp2_with fail;go_roundw
    case rel=>exact ⟨k+1,by omega,by go_num,HOUT8.out,HK7.out⟩
    case measure=>simp [intOf];omega
   ·obtain rfl:k=l.length:=(by omega);rw[List.take_length] at HGR;have HKW:=Hd (HK1.out.trans HKR.out);have HYR:=Hd (HY1.out.kept HKR.out);have HEW:=Hd (HEN.out.kept HKW.out);have HLC:=Hd (zv5 lang wr HEW.out.gnd HEW.out.tab);unfold LocP at HLC;have HSC:=Hd (zv2 lang);have HIG:Hid ((zw3 lang).ignore=[]):=rfl;obtain ⟨C,HCC⟩:∃ C,Hid (zw3 lang=C):=⟨_,rfl⟩;rw[HCC.out] at HLC HSC HFN HIG;obtain ⟨so,HSOR⟩:∃ so,Hid (y.sort=so):=⟨_,rfl⟩;have HWY:Hid (wsY y=Lib.fields so):=(by show _=_;rw[<- HSOR.out];rfl);have HWB:Hid (∀ b∈so,b.toNat<128):=fun b hb=>(HWS.out b (by rw[HSOR.out];exact hb)).1;have hsl:so.length<=100000:=(by rw[<- HSOR.out];exact hy.2.1);have HY2:Hid (wr.cell? ⟨B,2,none⟩=some (.string (bs so))/\B<wr.heap.size):=⟨by rw[<- HSOR.out];exact (zcC HYR.out).1.2.2.1,HYR.out.lt⟩;rw[HWY.out] at HFN;have HWL:Hid ((Lib.fields so).length<=so.length+1):=(by show _<=_;rw[<- HWY.out,<- HSOR.out];exact zDL he);have HLEN:Hid ((l.map zjG).length=l.length):=List.length_map _;obtain ⟨xs,HXS⟩:∃ xs,Hid (l.map zjG=xs):=⟨_,rfl⟩;have HGOOD:Hid (∀ z∈xs,FitKy z.k):=fun z hz=>by
     rw[<- HXS.out] at hz;obtain ⟨t,ht,rfl⟩:=List.mem_map.1 hz;exact zzT (HFT.out t ht)
    have HSRT:Hid (zw2 (fun a b=>cfW C (Lib.fields so) a.k b.k) xs=(zC0 C (Lib.fields so) l).map zjG):=by
     show _=_;rw[<- HXS.out];exact zBW _ _ _
    rw[HXS.out] at HGR HLEN;have hl19:xs.length<=19:=(by have:=HLEN.out;omega);obtain ⟨os,HOS⟩:∃ os,Hid (zC0 C (Lib.fields so) l=os):=⟨_,rfl⟩;have HOF:Hid (∀ z∈os,FitL z):=fun z hz=>by
     rw[<- HOS.out] at hz;exact HFT.out z ((zzS C (Lib.fields so) l).mem_iff.1 hz)
    have hol:os.length<=19:=(by rw[<- HOS.out,zBX];omega);rw[HOS.out] at HSRT HFN;clear HWS HSOR HWY HYR HOS HCC HFT HEN HKR;go_wp2_with fail;refine HLC.out.mono ?_;rintro e w2 ⟨vR,vO,rfl,hcol,⟨hiR,hiO⟩,hk2⟩;have HIR:=Hd hiR;have HIO:=Hd hiO;rw[HIG.out];have HCOL:=Hd hcol;obtain ⟨aR,cR,rfl,lR⟩:=hcol.1.form;obtain ⟨aO,cO,rfl,lO⟩:=hcol.2.form;have HKA:=Hd (hk2.trans (zaA w2 (.cells #[.slice aR C.ranks.length cR,.slice aO C.order.length cO,.string (bs [])] 88)));have HC2:=Hd (Blk.new w2 88 #[.slice aR C.ranks.length cR,.slice aO C.order.length cO,.string (bs [])]);have HCOL2:=Hd (HCOL.out.kept (zaA w2 (.cells #[.slice aR C.ranks.length cR,.slice aO C.order.length cO,.string (bs [])] 88)));obtain ⟨C2,HCE⟩:∃ C2,Hid (w2.heap.size=C2):=⟨_,rfl⟩;clear hcol hk2 hiR hiO HLC HCOL;go_upto_region 13 with fail;rw[HCE.out] at HC2 ⊢;generalize w2.alloc _=w3 at *;clear HCE;have y2:=(HKA.out.cell (p:=⟨B,2,none⟩) HY2.out.2).trans HY2.out.1;have yz:B<w3.heap.size:=Nat.lt_of_lt_of_le HY2.out.2 HKA.out.size;have HFE:=Hd (Tryz.strings_Fields_laid (bs so) w3 (by simp;omega) (fun j b hb=>HWB.out b (List.mem_of_getElem? (by simpa using hb))) (HEW.out.kept HKA.out).asc);simp only[zfL] at HFE;obtain ⟨ws,HWZ⟩:∃ ws,Hid (Lib.fields so=ws):=⟨_,rfl⟩;rw[HWZ.out] at HFE HSRT;have hwl:ws.length<=1000000:=(by have h:=HWL.out;rw[HWZ.out] at h;omega);clear HWZ;go_wp2_with fail;refine HFE.out.mono ?_;rintro e w4 ⟨rfl,rfl⟩;have e4:(w3.alloc (.cells (List.map (fun l=>Value.string ⟨l.toArray⟩) ws).toArray 9))=w3.alloc (.cells (zaH ws).toArray 9):=rfl;rw[e4];clear e4;have hkf:=zaA w3 (.cells (zaH ws).toArray 9);have HSW:=Hd (znM w3 ws);have HSB:=Hd (Blk.new w3 9 (zaH ws).toArray);have HC4:=Hd (HC2.out.kept hkf);have HCOL4:=Hd (HCOL2.out.kept hkf);have HKF:=Hd (HKA.out.trans hkf);generalize w3.alloc (.cells (zaH ws).toArray 9)=w4 at *;generalize w3.heap.size=S4 at *;clear hkf HC2 HCOL2 HKA HFE y2 yz;have hkb:=zaA w4 (.cells #[.slice (some ⟨S4,0,none⟩) ws.length ws.length] 29);have HCB:=Hd (Blk.new w4 29 #[.slice (some ⟨S4,0,none⟩) ws.length ws.length]);have HSW5:=Hd (HSW.out.kept hkb);have HSB5:=Hd (HSB.out.kept hkb);have HC5:=Hd (HC4.out.kept hkb);have HCOL5:=Hd (HCOL4.out.kept hkb);have HKG:=Hd (HKF.out.trans hkb);obtain ⟨C1,HCE⟩:∃ C1,Hid (w4.heap.size=C1):=⟨_,rfl⟩;clear hkb HSW HSB HC4 HCOL4 HKF;go_upto_region 14 with fail;rw[HCE.out] at HCB ⊢;generalize w4.alloc _=w5 at *;clear HCE;have HG5:=Hd (HGR.out.kept zpR HKG.out);obtain ⟨ar,cr,rfl,hcr,hmr⟩:=HGR.out.form;have hrow:∀ g,(Value.slice ar xs.length cr).ownBlock=some g->w1.heap.size<=g/\g<wr.heap.size:=fun g q=>HGR.out.blk g q;have n1:=OutG.ne_blk HG5.out HCB.out (by decide);have n2:=OutG.ne_blk HG5.out HC5.out (by decide);have n3:=OutG.ne_blk HG5.out HSB5.out (by decide);have HSO:=Hd (zv0 C1 C2 w1.heap.size (fun g=>g<w1.heap.size) (fun a b=>cfW C ws a.k b.k) (fun z=>FitKy z.k) _ xs w5 HG5.out HGOOD.out hl19 (fun w' cs ds p q hon gx gy hx hy=>by
     obtain ⟨vA,vE,vF,rfl,h1⟩:=hx;obtain ⟨uA,uE,uF,rfl,h2⟩:=hy;obtain ⟨aA,cA,rfl,-⟩:=h1.1.1.shape;obtain ⟨aS,cS,rfl,-⟩:=h1.2.1.1.shape;obtain ⟨aF,cF,rfl,-⟩:=(show ∃ a c,vF=.slice a p.src.fields.length c/\p.src.fields.length<=c by obtain ⟨a,c,e,l,_⟩:=h1.2.2.1;exact ⟨a,c,e,l⟩);obtain ⟨bA,dA,rfl,-⟩:=h2.1.1.shape;obtain ⟨bS,dS,rfl,-⟩:=h2.2.1.1.shape;obtain ⟨bF,dF,rfl,-⟩:=(show ∃ a c,uF=.slice a q.src.fields.length c/\q.src.fields.length<=c by obtain ⟨a,c,e,l,_⟩:=h2.2.2.1;exact ⟨a,c,e,l⟩);exact zrE C1 C2 (.slice (some ⟨S4,0,none⟩) ws.length ws.length) (.slice aR C.ranks.length cR) (.slice aO C.order.length cO) C ws p q aA aS aF bA bS bF _ _ _ _ _ _ cA cS cF dA dS dF w' (HCB.out.onl hon n1) (HSW5.out.onlS (S:=fun g=>g=S4) (fun _ g q=>by cases q;rfl) hon (fun g _ hs q=>n3 (by rw[<- hs];exact q))) (by rw[HIG.out];exact HC5.out.onl hon n2)
      ⟨HCOL5.out.1.onlS HIR.out hon (fun g _ hs q=>by have:=(hrow g q).2;omega),HCOL5.out.2.onlS HIO.out hon (fun g _ hs q=>by have:=(hrow g q).2;omega)⟩ HSC.out gx gy hwl))
    unfold SrsS at HSO;rw[HSRT.out] at HSO;have hos:os.length=xs.length:=by
     have h1:=congrArg List.length HSRT.out;rw[zo3,List.length_map] at h1;exact h1.symm
    have HOSX:=Hd hos;clear n1 n2 n3 hos HSRT HGOOD HCOL5 HC5 HSB5 HSW5 HG5 HIR HIO HSC;go_wp2_with fail;refine HSO.out.mono ?_;rintro e w6 ⟨rfl,ho6,hon6⟩;have HG6:=Hd ho6;have HK6:Hid (Kept w w6):=(HKW.out.trans HKG.out).trans' (hon6.below (HKW.out.trans HKG.out).size (fun i q=>by have h1:=(hrow i q).1;have h2:=HK1.out.size;omega));have HA6:Hid (∀ g,g<w1.heap.size->True):=fun _ _=>trivial;clear ho6 hon6 HSO HCB HKG hrow HLEN HXS HGR HY2 HEW HKW;go_wp2_with fail;go_loopw [17,61] (fun o i wx=>∃ (k:Nat),k<=os.length/\i=.int .i64 k/\Hid (OutG SrcK 5 (fun g=>w6.heap.size<=g) w6.heap.size 50 wx o (os.take k))/\Hid (Kept w6 wx)) (fun _ i _=>os.length - (intOf i).toNat)
    case atStart=>exact ⟨0,Nat.zero_le _,rfl,OutG.nil _ _ _ _ _ _,Kept.refl _⟩
    case round =>
     obtain ⟨k,hk,rfl,HGR,HKR⟩:=hrel;have hzr:w6.heap.size<=wr.heap.size:=HKR.out.size;by_cases hlt:k<xs.length
     ·have hlo:k<os.length:=(by have:=HOSX.out;omega);obtain ⟨x,hx⟩:∃ x,os[k]? = some x:=⟨_,List.getElem?_eq_getElem hlo⟩;have hft:=HOF.out x (List.mem_of_getElem? hx);have HT:Hid (os.take (k+1)=os.take k ++ [x]):=(by show _=_;rw[List.take_succ,hx];rfl);obtain ⟨us,HUS⟩:∃ us,Hid (os.take k=us):=⟨_,rfl⟩;have hul:us.length<=19:=(by rw[<- HUS.out,List.length_take];omega);rw[HUS.out] at HGR HT;obtain ⟨g,cs,rfl,hgb,hgz,-,-,-,hcc,hR⟩:=(HG6.out.kept zpR HKR.out).at_ k (zjG x) (by rw[List.getElem?_map,hx];rfl);obtain ⟨vA,vE,vF,rfl,hS⟩:=hR;have d0:wr.cell? ⟨g,k * 9,none⟩=some (.string (bs (zf7 x))):=(by have h:=hcc 0 _ rfl;rw[Nat.add_zero] at h;exact h);have d1:=hcc 1 _ rfl;have d2:=hcc 2 _ rfl;have d3:=hcc 3 _ rfl;have d4:=hcc 4 _ rfl;have d5:=hcc 5 _ rfl;have d6:=hcc 6 _ rfl;have d7:=hcc 7 _ rfl;have d8:=hcc 8 _ rfl;obtain ⟨aA,cA,rfl,lA⟩:=hS.1.1.shape;obtain ⟨aS,cS,rfl,lS⟩:=hS.2.1.1.shape;obtain ⟨aF,cF,rfl,lF⟩:=(show ∃ a c,vF=.slice a x.fields.length c/\x.fields.length<=c by obtain ⟨a,c,e,l,_⟩:=hS.2.2.1;exact ⟨a,c,e,l⟩);have HCP:=Hd (fun w' (kk:Kept wr w')=>zv4 (.slice aA x.author.length cA) (.slice aS x.editor.length cS) (.slice aF x.fields.length cF) x w' (hS.1.1.kept kk) (hS.2.1.1.kept kk) (hS.2.2.1.kept kk) (by have:=hft.1;omega) (by have:=hft.2.1;omega) (by have:=hft.2.2.1;omega));unfold CpyS at HCP;unfold zjG zzR at d1 d2 d3 d4 d5;simp only at d1 d2 d3 d4 d5;obtain ⟨v1,hv1⟩:∃ v,zdW ((za5 x.fields kYr).getD [])=v:=⟨_,rfl⟩;obtain ⟨v2,hv2⟩:∃ v,(za5 x.fields zhC).getD []=v:=⟨_,rfl⟩;obtain ⟨v0,hv0⟩:∃ v,zf7 x=v:=⟨_,rfl⟩;rw[hv0] at d0;rw[hv1] at d1;rw[hv2] at d2;clear hv0 hv1 hv2 hcc hS hx hft HUS;have HKA:=Hd (zaA wr (.cells #[.string (bs v0),.int .i64 v1,.string (bs v2),.string (bs x.key),.string (bs x.key),.string (bs x.type),.slice aA x.author.length cA,.slice aS x.editor.length cS,.slice aF x.fields.length cF] 86));go_wp2_with fail;refine (HCP.out _ HKA.out).mono ?_;rintro e w7 ⟨uA,uS,uF,rfl,hsl,hk7⟩;obtain ⟨bA,eA,rfl,-⟩:=hsl.1.1.shape;obtain ⟨bS,eS,rfl,-⟩:=hsl.2.1.1.shape;obtain ⟨bF,eF,rfl,-⟩:=(show ∃ a c,uF=.slice a x.fields.length c/\x.fields.length<=c by obtain ⟨a,c,e,l,_⟩:=hsl.2.2.1;exact ⟨a,c,e,l⟩);have HK7:=Hd ((HKR.out.trans HKA.out).trans hk7);have HG7:=Hd ((HGR.out.kept zy8 HKA.out).kept zy8 hk7);have hka:=zaA w7 (.cells #[.string (bs x.key),.string (bs x.type),.slice bA x.author.length eA,.slice bS x.editor.length eS,.slice bF x.fields.length eF] 50);have HROW:=Hd (Blk.new w7 50 #[.string (bs x.key),.string (bs x.type),.slice bA x.author.length eA,.slice bS x.editor.length eS,.slice bF x.fields.length eF]);have HG8:=Hd (HG7.out.kept zy8 hka);have HK8:=Hd (HK7.out.trans hka);obtain ⟨ao,co,rfl,hco,hmo⟩:=HGR.out.form;have hzz:wr.heap.size<=(wr.alloc (.cells #[.string (bs v0),.int .i64 v1,.string (bs v2),.string (bs x.key),.string (bs x.key),.string (bs x.type),.slice aA x.author.length cA,.slice aS x.editor.length cS,.slice aF x.fields.length cF] 86)).heap.size:=HKA.out.size;have HYY:Hid (SrcK (fun g=>w6.heap.size<=g/\(Value.slice ao us.length co).ownBlock≠some g) _ [.string (bs x.key),.string (bs x.type),.slice bA x.author.length eA,.slice bS x.editor.length eS,.slice bF x.fields.length eF] x) :=
       ⟨_,_,_,rfl,hsl.sam (Sam.kept hka) (fun g _ q=>⟨by omega,fun e=>by have:=(HGR.out.blk g e).2;omega⟩)⟩
      have hbz:w6.heap.size<=(w7.alloc (.cells #[.string (bs x.key),.string (bs x.type),.slice bA x.author.length eA,.slice bS x.editor.length eS,.slice bF x.fields.length eF] 50)).heap.size:=Nat.le_trans hzr (Nat.le_trans (Nat.le_trans hzz hk7.size) hka.size);clear hsl hk7 hka HCP HKA HGR HKR HG7 HK7 d0 d1 d2 d3 d4 d5 d6 d7 d8 hzz hgz;go_wp2_with (at_builtin;refine zjE ?_);refine Hd ?_;refine zaQ zy8 rfl (.tmp 65) (.tmp 69) 31 rfl i5 _ 104 Tryz.underlying31 hi5 hz50 hz51 hz52 rfl (by omega) (by rfl) HG8.out w7.heap.size _ _ (by rfl) (fun j u hu=>HROW.out.cell j u (by rw[<- Array.getElem?_toList];exact hu)) rfl HYY.out (by unfold maxLen;omega) (by omega) hbz _ rfl ?_;intro g7 c7' w9 hout7 hgrow7 hat7 hlt7;have HOUT8:Hid (OutG SrcK 5 (fun g=>w6.heap.size<=g) w6.heap.size 50 w9 (.slice (some ⟨g7,0,none⟩) (us.length+1) c7') (os.take (k+1))):=(by rw[HT.out];exact hout7);have HK9:Hid (Kept w6 w9):=HK8.out.trans' ((Only.grown hgrow7).below HK8.out.size (fun i q=>(HG8.out.blk i q.symm).1));clear hout7 hgrow7 hat7 hlt7 HROW HG8 HYY hbz HK8;go_wp2_with fail;go_roundw
      case rel=>exact ⟨k+1,by omega,by go_num,HOUT8.out,HK9.out⟩
      case measure=>simp [intOf];omega
     ·obtain rfl:k=os.length:=(by have:=HOSX.out;omega);rw[List.take_length] at HGR;have HF:=Hd (HFN.out _ _ ((HGR.out.mono zy8 (fun g _ q=>Nat.le_trans HK6.out.size q)).low HK6.out.size) (HK6.out.trans HKR.out));obtain ⟨ao,co,rfl,hco,hmo⟩:=HGR.out.form;clear HGR HFN;go_wp2_with fail
      (try go_ret2)
      exact HF.out
def zAP (n:Nat):Bs:=if h:n=0 then [] else UInt8.ofNat (97+(n - 1) % 26) :: zAP ((n - 1) / 26)
termination_by n
decreasing_by omega
def zcY (n:Nat):Bs:=(zAP n).reverse
theorem zc9:zAP 0=[]:=by rw[zAP];rfl
theorem zd9 {n:Nat} (h:0<n):zAP n=UInt8.ofNat (97+(n - 1) % 26) :: zAP ((n - 1) / 26):=by
 rw[zAP,dif_neg (by omega)]
theorem zuC {r:Nat} (h:r<26):(UInt8.ofNat (97+r)).toNat=97+r:=by
 rw[UInt8.toNat_ofNat'];omega
theorem zB5:∀ (m n:Nat),zAP m=zAP n->m=n:=by
 intro m
 induction m using Nat.strongRecOn with
 | _ m ih =>
  intro n h;rcases Nat.eq_zero_or_pos m with rfl|hm
  ·rcases Nat.eq_zero_or_pos n with rfl|hn
   ·rfl
   ·rw[zc9,zd9 hn] at h;cases h
  ·rcases Nat.eq_zero_or_pos n with rfl|hn
   ·rw[zc9,zd9 hm] at h;cases h
   ·rw[zd9 hm,zd9 hn] at h;obtain ⟨h1,h2⟩:=List.cons.inj h;have h3:=congrArg UInt8.toNat h1;rw[zuC (Nat.mod_lt _ (by decide)),zuC (Nat.mod_lt _ (by decide))] at h3;have h4:=ih ((m - 1) / 26) (by omega) _ h2;omega
theorem zB6 {m n:Nat} (h:zcY m=zcY n):m=n:=zB5 m n (List.reverse_inj.1 h)
theorem zDR {n:Nat} (h:0<n):zcY n≠[]:=by
 unfold zcY;rw[zd9 h];simp
theorem zB7:∀ n,(zAP n).length<=n:=by
 intro n
 induction n using Nat.strongRecOn with
 | _ n ih =>
  rcases Nat.eq_zero_or_pos n with rfl|hn
  ·rw[zc9];exact Nat.le_refl _
  ·rw[zd9 hn,List.length_cons];have:=ih ((n - 1) / 26) (by omega);omega
theorem zuD (n:Nat):(zcY n).length<=n:=by unfold zcY;rw[List.length_reverse];exact zB7 n
abbrev Tok:=List (Option UInt8)
def zeU (s:Bs):Tok->Bs
 | []=>[]
 | none :: l=>s ++ zeU s l
 | some b :: l=>b :: zeU s l
theorem zB8 (s:Bs) (a b:Tok):zeU s (a ++ b)=zeU s a ++ zeU s b:=by
 induction a with
 | nil=>rfl
 | cons x a ih =>
  cases x with
  | none=>show s ++ zeU s (a ++ b)=(s ++ zeU s a) ++ _;rw[ih,List.append_assoc]
  | some c=>show c :: zeU s (a ++ b)=(c :: zeU s a) ++ _;rw[ih];rfl
theorem zs3 {a b:UInt8} (hab:a≠b):∀ (l1 l2:Tok),zeU [a] l1=zeU [a] l2->zeU [b] l1=zeU [b] l2->l1=l2
 | [],[],_,_=>rfl
 | [],none :: l2,h,_=>by cases h
 | [],some c :: l2,h,_=>by cases h
 | none :: l1,[],h,_=>by cases h
 | some c :: l1,[],h,_=>by cases h
 | none :: l1,none :: l2,h1,h2=>by
  rw[zs3 hab l1 l2 (List.cons.inj h1).2 (List.cons.inj h2).2]
 | none :: l1,some c :: l2,h1,h2=>by
  have e1:=(List.cons.inj (show a :: zeU [a] l1=c :: zeU [a] l2 from h1)).1;have e2:=(List.cons.inj (show b :: zeU [b] l1=c :: zeU [b] l2 from h2)).1;exact absurd (e1.trans e2.symm) hab
 | some c :: l1,none :: l2,h1,h2=>by
  have e1:=(List.cons.inj (show c :: zeU [a] l1=a :: zeU [a] l2 from h1)).1;have e2:=(List.cons.inj (show c :: zeU [b] l1=b :: zeU [b] l2 from h2)).1;exact absurd (e1.symm.trans e2) hab
 | some c :: l1,some d :: l2,h1,h2=>by
  have e1:=List.cons.inj (show c :: zeU [a] l1=d :: zeU [a] l2 from h1);have e2:=List.cons.inj (show c :: zeU [b] l1=d :: zeU [b] l2 from h2);rw[zs3 hab l1 l2 e1.2 e2.2,e1.1]
theorem zz4 (s:Bs) (l:Tok):(zeU s l).length=(l.filter Option.isSome).length+(l.filter Option.isNone).length * s.length:=by
 induction l with
 | nil=>simp [zeU]
 | cons x l ih =>
  cases x with
  | none =>
   show (s ++ zeU s l).length=_;rw[List.length_append,ih,List.filter_cons_of_neg (by simp),List.filter_cons_of_pos (by rfl),List.length_cons,Nat.add_mul];omega
  | some c =>
   show (zeU s l).length+1=_;rw[ih,List.filter_cons_of_pos (by rfl),List.filter_cons_of_neg (by simp),List.length_cons];omega
theorem zj7 {s t:Bs} (h:s.length=t.length):∀ l:Tok,none∈l->zeU s l=zeU t l->s=t
 | [],hn,_=>(List.not_mem_nil hn).elim
 | none :: l,_,q=>(List.append_inj q h).1
 | some c :: l,hn,q=>by
  rcases List.mem_cons.1 hn with r|r
  ·cases r
  ·exact zj7 h l r (List.cons.inj q).2
theorem zrP (s l:Bs):zeU s (l.map some)=l:=by
 induction l with
 | nil=>rfl
 | cons b l ih=>show b :: zeU s (l.map some)=_;rw[ih]
theorem zz5 {α:Type} (s:Bs) (l:List α) (g:α->Tok):zeU s (l.flatMap g)=l.flatMap fun p=>zeU s (g p):=by
 induction l with
 | nil=>rfl
 | cons x l ih=>rw[List.flatMap_cons,List.flatMap_cons,zB8,ih]
theorem zz6 (s:Bs):zeU s [none]=s:=by show s ++ []=s;rw[List.append_nil]
theorem zDS {s t:Bs} {l:Tok} (hn:none∈l) (h:zeU s l=zeU t l):s=t:=by
 have h1:=congrArg List.length h;rw[zz4,zz4] at h1;have hp:0<(l.filter Option.isNone).length:=List.length_pos_of_mem (List.mem_filter.2 ⟨hn,rfl⟩);have h2:(l.filter Option.isNone).length * s.length=(l.filter Option.isNone).length * t.length:=(by omega);exact zj7 (Nat.eq_of_mul_eq_mul_left hp h2) l hn h
end Go.Proofs.YtmcoomlkbgiboaaGreatDoor
