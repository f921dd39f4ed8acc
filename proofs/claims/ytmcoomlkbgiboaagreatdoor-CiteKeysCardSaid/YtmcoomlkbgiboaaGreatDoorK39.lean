/- cite.Suffixes: the suffixes of sources, or the error. Conditions: lengths, the listed variables. -/
import Derived.Test.YtmcoomlkbgiboaaGreatDoorK38
import Derived.Test.YtmcoomlkbgiboaaGreatDoorK34
import Derived.Test.YtmcoomlkbgiboaaGreatDoorK30
import Derived.Test.YtmcoomlkbgiboaaGreatDoorK20
import Derived.Test.YtmcoomlkbgiboaaGreatDoorK36
import Derived.Test.YtmcoomlkbgiboaaGreatDoorK25
import Derived.Test.YtmcoomlkbgiboaaGreatDoorK11
import Derived.Test.YtmcoomlkbgiboaaGreatDoorK08
import Derived.Test.YtmcoomlkbgiboaaGreatDoorK10
import Derived.Test.YtmcoomlkbgiboaaGreatDoorK12
import Derived.Test.YtmcoomlkbgiboaaGreatDoorK29
import Derived.Test.YtmcoomlkbgiboaaGreatDoorK31
import Derived.Test.YtmcoomlkbgiboaaGreatDoorK37
import Derived.Test.YtmcoomlkbgiboaaGreatDoorK32

set_option linter.all false
namespace Go.Proofs.YtmcoomlkbgiboaaGreatDoor
open Go.RowKit

def SufPo (r:Int × List Bs) (w:World) (e:Ending) (w':World):Prop:=∃ v,e=.returned (.tuple #[v,.int .i64 r.1])∧Strs w' v r.2∧Kept w w'
theorem map_nil_rep (l:List SrcT):(l.map fun _=>([]:Bs))=List.replicate l.length []:=by
 induction l with
 | nil=>rfl
 | cons x l ih=>rw [List.map_cons,ih,List.length_cons,List.replicate_succ]
theorem filterT_take {l:List Bs} {f:Bs→Bool} {k:Nat} {p:Bs} (h:l[k]? = some p):(l.take (k+1)).filter f=(l.take k).filter f ++ (if f p=true then [p] else []):=by
 rw [List.take_succ,h,List.filter_append]
 congr 1
 show [p].filter f=_
 rw [List.filter_cons,List.filter_nil]
theorem once_take {l:List Bs} {k:Nat} {p:Bs} (h:l[k]? = some p) (h1:l.count p=1):p ∉ l.take k:=by
 intro q
 obtain ⟨hk,e⟩:=List.getElem?_eq_some_iff.1 h
 have e1:l=l.take k ++ l.drop k:=(List.take_append_drop k l).symm
 rw [e1,List.count_append] at h1
 have h2:1≤(l.take k).count p:=List.one_le_count_iff.2 q
 have h3:1≤(l.drop k).count p:=List.one_le_count_iff.2 (by rw [List.drop_eq_getElem_cons hk,e]; exact List.mem_cons_self ..)
 omega
set_option maxRecDepth 100000 in
set_option maxHeartbeats 25600000 in
theorem cisuf_any (v vE:Value) (l:List SrcT) (y:StyT) (lang:Bs) (w:World) (hen:EnvC w) (hv:Srcs w v l) (hl:l.length≤8) (hfit:∀ s∈l,FitL s) (hE:Prs w vE y.entries) (hy:SmallY y) (hym : -9223372036854775808≤y.most∧y.most≤9223372036854775807) :
  Calls Tryz.prog 18 #[v,styV vE y,.string (bs lang)] w (SufPo (sufR y lang l) w):=by
 obtain ⟨i0,hi,hz0,hz1,hz2⟩:=info_parts Tryz.infoStr
 obtain ⟨a,c,rfl,hc⟩:=(show ∃ a c,v=.slice a l.length c∧l.length≤c by obtain ⟨a,c,e,q,_⟩:=hv; exact ⟨a,c,e,q⟩)
 obtain ⟨aE,cE,rfl,lE⟩:=(show ∃ a c,vE=.slice a y.entries.length c∧y.entries.length≤c by obtain ⟨a,c,e,q,_⟩:=hE; exact ⟨a,c,e,q⟩)
 have HK0:=Lib.hid ((kept_alloc w (.cells (styCells (.slice aE y.entries.length cE) y) 33)).trans (kept_alloc _ (.cells #[.string (bs lang)] 9)))
 have HY0:=Lib.hid ((Blk.new w 33 (styCells (.slice aE y.entries.length cE) y)).alloc (.cells #[.string (bs lang)] 9))
 have HL0:=Lib.hid (Blk.new (w.alloc (.cells (styCells (.slice aE y.entries.length cE) y) 33)) 9 #[.string (bs lang)])
 have HCH:=Lib.hid (fun w' (k:Kept w w')=>scheck_any (.slice aE y.entries.length cE) y w' (hen.gnd.kept k) hy (hE.kept k))
 have HEN:=Lib.hid hen
 have HV:=Lib.hid hv
 have HFT:=Lib.hid hfit
 have HYC:Hid (y.cite.length≤100000):=hy.2.2.1
 have HYM:=Lib.hid hym
 have HFIN0:Hid (styE y≠0→∀ w',Kept w w'→SufPo (sufR y lang l) w (.returned (.tuple #[.slice none 0 0,.int .i64 (styE y)])) w'):=fun h w' k=>by
  unfold sufR; rw [if_neg h]
  exact ⟨_,rfl,Strs.none_ _,k⟩
 have HFIN1:Hid (styE y=0→y.numeric=true→∀ u w',Strs w' u (List.replicate l.length [])→Kept w w'→SufPo (sufR y lang l) w (.returned (.tuple #[u,.int .i64 0])) w'):=fun h hn u w' h1 k=>by
  unfold sufR; rw [if_pos h,if_pos hn,map_nil_rep]
  exact ⟨_,rfl,h1,k⟩
 have HFIN2:Hid (styE y=0→y.numeric=false→∀ u w',Strs w' u ((sufN (l.map (citX y lang))).map letL)→Kept w w'→SufPo (sufR y lang l) w (.returned (.tuple #[u,.int .i64 0])) w'):=fun h hn u w' h1 k=>by
  unfold sufR; rw [if_pos h,if_neg (by rw [hn]; simp)]
  exact ⟨_,rfl,h1,k⟩
 generalize SufPo (sufR y lang l) w=P at *
 clear hen hv hfit hE hy hym
 obtain ⟨B,HBB⟩:∃ B,Hid (w.heap.size=B):=⟨_,rfl⟩
 have hwB:w.heap.size≤B:=by rw [HBB.out]; exact Nat.le_refl _
 rw [World.size_alloc] at HL0
 rw [HBB.out] at HY0 HL0
 have HYC9:Hid ((Value.slice aE y.entries.length cE).oneCell'=true):=rfl
 obtain ⟨YC,HYE⟩:∃ YC,Hid (styCells (.slice aE y.entries.length cE) y=YC):=⟨_,rfl⟩
 have HB10:=Lib.hid (sty_cells HY0.out)
 unfold styV styCells at HCH
 unfold styCells at HK0 HB10 HL0
 unfold styV styCells
 go_enter Tryz.func18,Tryz.ntmps18
 go_upto_region 1 with fail
 rw [HBB.out]
 have hY0:=HY0.out
 unfold styCells at hY0
 have HY1:=Lib.hid hY0
 clear hY0 HY0
 generalize World.alloc (World.alloc w _) _=w0 at *
 have hBw0:B+1<w0.heap.size:=HL0.out.lt
 obtain ⟨⟨b0,b1,b2,b3,b4,b5,b6,b7,b8,b9⟩,bz⟩:=HB10.out
 have HCX:=Lib.hid (HCH.out w0 HK0.out)
 clear HCH
 go_wp2_with fail
 refine HCX.out.mono ?_
 rintro e w1 ⟨rfl,hk1⟩
 have HK1:=Lib.hid (HK0.out.trans hk1)
 have HYB:Hid (Blk w1 B 33 YC):=by rw [← HYE.out]; exact HY1.out.kept hk1
 have HLB:=Lib.hid (HL0.out.kept hk1)
 clear hk1 HCX HY1 HL0 HK0 HB10 b0 b1 b2 b3 b4 b5 b6 b7 b8 b9 bz
 by_cases he:¬ styE y=0
 ·have hne:(styE y == 0)=false:=by rw [beq_eq_false_iff_ne]; exact he
  have hnb:(styE y != 0)=true:=by rw [bne_iff_ne]; exact he
  have HF:=Lib.hid (HFIN0.out he w1 HK1.out)
  generalize styE y=E at *
  go_wp2_with fail
  (try go_ret2)
  exact HF.out
 ·have he:styE y=0:=Decidable.not_not.1 he
  have HFN1:=Lib.hid (HFIN1.out he)
  have HFN2:=Lib.hid (HFIN2.out he)
  have HSE:=Lib.hid he
  rw [he]
  clear HFIN0 HFIN1 HFIN2 he
  obtain ⟨n,HN⟩:∃ n,Hid (l.length=n):=⟨_,rfl⟩
  obtain ⟨w2,mkS,own2,gr2⟩:=run_makeSlice_full (P:=Tryz.prog) (w:=w1) w1.heap.size 29 9 i0 _ 1 Tryz.underlying29 hi hz0 hz1 .i64 .i64 l.length (by omega) (by rw [hz2]; omega) (by unfold maxLen; omega) (Nat.le_refl _)
  have hcl:Value.cells (.string ⟨#[]⟩)=#[.string (bs [])]:=rfl
  rw [hcl,Nat.mul_one,toList_madeCells_one] at own2
  have hk2:Kept w1 w2:=(Only.grown gr2).below (Nat.le_refl _) (fun i h=>by cases h)
  have HO2:=Lib.hid (OutG.strs0 own2)
  have HK2:=Lib.hid (HK1.out.trans hk2)
  have HYB2:=Lib.hid (HYB.out.kept hk2)
  have HLB2:=Lib.hid (HLB.out.kept hk2)
  have HB1:Hid (B+1<w1.heap.size):=HLB.out.lt
  have hy2:=HYB2.out
  rw [← HYE.out] at hy2
  obtain ⟨⟨-,b1,-,-,-,-,-,-,-,-⟩,bz⟩:=sty_cells hy2
  clear own2 gr2 hk2 hy2 HYB HLB
  cases hnum:y.numeric with
  | true =>
   have HF:=Lib.hid (HFN1.out hnum _ w2 (Strs.outO HO2.out) HK2.out)
   rw [hnum] at b1
   go_wp2_with fail
   (try go_ret2)
   exact HF.out
  | false =>
   have HF:=Lib.hid (HFN2.out hnum)
   have HNU:=Lib.hid hnum
   rw [hnum] at b1
   obtain ⟨O,HOE⟩:∃ O,Hid (w1.heap.size=O):=⟨_,rfl⟩
   rw [HOE.out] at HO2 HB1 mkS
   obtain ⟨w3,mkT,own3,gr3⟩:=run_makeSlice_full (P:=Tryz.prog) (w:=w2) w2.heap.size 29 9 i0 _ 1 Tryz.underlying29 hi hz0 hz1 .i64 .i64 l.length (by omega) (by rw [hz2]; omega) (by unfold maxLen; omega) (Nat.le_refl _)
   rw [hcl,Nat.mul_one,toList_madeCells_one] at own3
   have hk3:Kept w2 w3:=(Only.grown gr3).below (Nat.le_refl _) (fun i h=>by cases h)
   have HP3:=Lib.hid (OutG.strs0 own3)
   have HOP:Hid (O<w2.heap.size):=(HO2.out.blk O rfl).2
   have mkM:=run_makeMap (P:=Tryz.prog) 99 w3
   have HKM:=Lib.hid ((HK2.out.trans hk3).trans (kept_alloc w3 (.map #[] 0)))
   have HMT:Hid (MapT (w3.alloc (.map #[] 0)) w3.heap.size []):=MapT.made w3
   have HPT:Hid (w2.heap.size<w3.heap.size):=(HP3.out.blk w2.heap.size rfl).2
   have HSA:Hid (SuA B YC lang O w2.heap.size l.length (List.replicate l.length []) (List.replicate l.length []) (w3.alloc (.map #[] 0))) :=
    ⟨(HYB2.out.kept hk3).kept (kept_alloc _ _),(HLB2.out.kept hk3).kept (kept_alloc _ _),(HO2.out.kept strK hk3).kept strK (kept_alloc _ _),HP3.out.kept strK (kept_alloc _ _)⟩
   obtain ⟨PL,HPE⟩:∃ PL,Hid (w2.heap.size=PL):=⟨_,rfl⟩
   obtain ⟨TM,HTE⟩:∃ TM,Hid (w3.heap.size=TM):=⟨_,rfl⟩
   rw [HPE.out] at HOP HPT HSA mkT
   rw [HTE.out] at HPT HMT
   have HTZ:Hid (TM<(w3.alloc (.map #[] 0)).heap.size):=HMT.out.lt
   obtain ⟨ps,HPS⟩:∃ ps,Hid ((l.map (citX y lang)).map (·.1)=ps):=⟨_,rfl⟩
   have HPA:Hid (∀ (k:Nat) x,l[k]? = some x→ps[k]? = some (citS x y lang [])):=fun k x h=>by
    rw [← HPS.out,List.getElem?_map,List.getElem?_map,h]; rfl
   have HPL:Hid (ps.length=l.length):=by show _=_; rw [← HPS.out,List.length_map,List.length_map]
   clear own3 gr3 hk3 HP3 HYB2 HLB2 HO2 HK2 HK1 HN
   go_upto_region 10 with fail
   rw [HTE.out]
   try rw [HOE.out]
   try rw [HPE.out]
   clear mkM mkS mkT b1 bz HOE HPE HTE
   generalize w3.alloc _=w4 at *
   go_wp2_with fail
   go_loopw [41] (fun i wr=>∃ (k:Nat) (es:List (Bs × Value)),k≤l.length∧i=.int .i64 k∧Hid (SuA B YC lang O PL l.length (List.replicate l.length []) (ps.take k ++ List.replicate (l.length - k) []) wr)∧Hid (MapT wr TM es)∧Hid (∀ t,(getT es t).getD (.int .i64 0)=.int .i64 ((ps.take k).count t:Nat))∧Hid (Kept w wr)∧Hid (TM<wr.heap.size)) (fun i _=>l.length - (intOf i).toNat)
   case atStart=>exact ⟨0,[],Nat.zero_le _,rfl,(by rw [List.take_zero,List.nil_append,Nat.sub_zero]; exact HSA.out),HMT.out,(fun t=>by rw [List.take_zero]; rfl),HKM.out,HTZ.out⟩
   case round =>
    clear HSA HMT HKM HTZ
    obtain ⟨k,es,hk,rfl,HSA,HMT,HCV,HKR,HTZ⟩:=hrel
    by_cases hlt:k<l.length
    ·obtain ⟨x,hx⟩:∃ x,l[k]? = some x:=⟨_,List.getElem?_eq_getElem hlt⟩
     have hft:=HFT.out x (List.mem_of_getElem? hx)
     have hpx:=HPA.out k x hx
     obtain ⟨g,o,vA,vE,vF,rfl,hg,c0,c1,c2,c3,c4,pA,pE,pF⟩:=Srcs.at_ (HV.out.kept HKR.out) k x hx
     obtain ⟨aA,cA,rfl,lA⟩:=pA.shape
     obtain ⟨aS,cS,rfl,lS⟩:=pE.shape
     obtain ⟨aF,cF,rfl,lF⟩:=(show ∃ a c,vF=.slice a x.fields.length c∧x.fields.length≤c by obtain ⟨a,c,e,l,_⟩:=pF; exact ⟨a,c,e,l⟩)
     have HKA:=Lib.hid (kept_alloc wr (.cells #[.string (bs x.key),.string (bs x.type),.slice aA x.author.length cA,.slice aS x.editor.length cS,.slice aF x.fields.length cF] 50))
     have HSA2:=Lib.hid (HSA.out.kept HKA.out)
     have HCT:=Lib.hid (cicited_any B (B+1) (.slice aA x.author.length cA) (.slice aS x.editor.length cS) (.slice aF x.fields.length cF) (.slice aE y.entries.length cE) x y lang [] _ (HEN.out.kept (HKR.out.trans HKA.out)) (by rw [HYE.out]; exact HSA2.out.yb) HSA2.out.lb HYC9.out HYC.out HYM.out (pA.kept HKA.out) (pE.kept HKA.out) (pF.kept HKA.out) hft (by simp))
     obtain ⟨p,HPP⟩:∃ p,Hid (citS x y lang []=p):=⟨_,rfl⟩
     rw [HPP.out] at hpx HCT
     have HTK:Hid (ps.take (k+1)=ps.take k ++ [p]):=by show _=_; rw [List.take_succ,hpx]; rfl
     have HTL:Hid ((ps.take k).length=k):=by show _=_; rw [List.length_take,HPL.out]; omega
     have HCN:=Lib.hid (fun t=>count_take (x:=t) hpx)
     clear pA pE pF hx hft hpx HPP
     go_wp2_with fail
     refine HCT.out.mono ?_
     rintro e w5 ⟨rfl,hk5⟩
     have HK5:=Lib.hid ((HKR.out.trans HKA.out).trans hk5)
     have HSA5:=Lib.hid (HSA2.out.kept hk5)
     have HMT5:=Lib.hid ((HMT.out.kept HKA.out).kept hk5)
     have hz5:TM<w5.heap.size:=HMT5.out.lt
     have hget:(ps.take k ++ List.replicate (l.length - k) ([]:Bs))[k]? = some []:=by
      rw [List.getElem?_append_right (by rw [HTL.out]; exact Nat.le_refl _),HTL.out,Nat.sub_self,List.getElem?_replicate,if_pos (by omega)]
     obtain ⟨q0,q1,q2,-⟩:=outS_at HSA5.out.pla k [] hget
     have hop:=HOP.out
     have hpt:=HPT.out
     have hb1:=HB1.out
     have hlen:k<(ps.take k ++ List.replicate (l.length - k) ([]:Bs)).length:=by rw [List.length_append,HTL.out,List.length_replicate]; omega
     have HSA6:=Lib.hid (HSA5.out.setP k hlen p hb1 hop)
     have hset:(ps.take k ++ List.replicate (l.length - k) ([]:Bs)).set k p=ps.take (k+1) ++ List.replicate (l.length - (k+1)) []:=by
      have:=fill_set (ps.take k) (l.length - k) (by omega) p
      rw [HTL.out] at this
      rw [this,HTK.out,Nat.sub_sub]
     rw [hset] at HSA6
     have ho6:=Only.setCell (w:=w5) PL k (.string (bs p))
     have HMT6:=Lib.hid (HMT5.out.only ho6 (by omega))
     have HK6:=Lib.hid (HK5.out.trans' (ho6.below HK5.out.size (fun i e=>by omega)))
     have hnext:(ps.take (k+1) ++ List.replicate (l.length - (k+1)) ([]:Bs))[k]? = some p:=by
      rw [List.getElem?_append_left (by rw [HTK.out,List.length_append,HTL.out]; simp),HTK.out,List.getElem?_append_right (by rw [HTL.out]; exact Nat.le_refl _),HTL.out,Nat.sub_self]; rfl
     obtain ⟨r0,-,r2,-⟩:=outS_at HSA6.out.pla k p hnext
     have lk:=lookT (P:=Tryz.prog) (tm:=99) (te:=3) Tryz.underlying99 Tryz.underlying9 (w5.setCell ⟨PL,k,none⟩ (.string (bs p))) TM es p (.int .i64 0) (zero_int _) HMT6.out
     rw [HCV.out p] at lk
     obtain ⟨m,HMC⟩:∃ m,Hid ((ps.take k).count p=m):=⟨_,rfl⟩
     have hm8:m≤8:=by
      rw [← HMC.out]
      have:=List.count_le_length (a:=p) (l:=ps.take k)
      rw [HTL.out] at this
      omega
     rw [HMC.out] at lk
     obtain ⟨es',hes,up⟩:=upT (P:=Tryz.prog) (tm:=99) (te:=3) Tryz.underlying99 Tryz.underlying9 (w5.setCell ⟨PL,k,none⟩ (.string (bs p))) TM es p (.int .i64 ((m:Int)+1)) HMT6.out
     have ho7:=putT_only (w5.setCell ⟨PL,k,none⟩ (.string (bs p))) TM es'
     have HSA7:=Lib.hid (HSA6.out.only ho7 (by omega) (by omega) (by omega) (by omega))
     have HMT7:=Lib.hid (putT_map (w5.setCell ⟨PL,k,none⟩ (.string (bs p))) TM es' HMT6.out.lt)
     have HK7:=Lib.hid (HK6.out.trans' (ho7.below HK6.out.size (fun i e=>by omega)))
     have HCV7:Hid (∀ t,(getT es' t).getD (.int .i64 0)=.int .i64 ((ps.take (k+1)).count t:Nat)):=fun t=>by
      rw [hes t,HCN.out t]
      by_cases q:t=p
      ·subst q
       rw [if_pos rfl,HMC.out,if_pos (by simp)]; rfl
      ·rw [if_neg q,HCV.out t,if_neg (by simp; exact fun e=>q e.symm)]; rfl
     have HTZ7:Hid (TM<(putT (w5.setCell ⟨PL,k,none⟩ (.string (bs p))) TM es').heap.size):=HMT7.out.lt
     clear hget hlen hset hnext ho6 ho7 hes HSA6 HSA5 HSA2 HSA HMT6 HMT5 HMT HK6 HK5 HCV HCN HKA HCT HTK HTL HMC hk5 hop hpt hb1 HTZ
     go_wp2_with fail
     go_roundw
     case rel=>exact ⟨k+1,es',by omega,by go_num,HSA7.out,HMT7.out,HCV7.out,HK7.out,HTZ7.out⟩
     case measure=>simp [intOf]; omega
    ·obtain rfl:k=l.length:=by omega
     have hpt:ps.take l.length=ps:=by rw [← HPL.out,List.take_length]
     rw [hpt,Nat.sub_self,List.replicate_zero,List.append_nil] at HSA
     rw [hpt] at HCV
     have mkN:=run_makeMap (P:=Tryz.prog) 73 wr
     have hka:=kept_alloc wr (.map #[] 0)
     have HKB:Hid (MapK (wr.alloc (.map #[] 0)) wr.heap.size []):=MapK_made wr
     have HSB:=Lib.hid (HSA.out.kept hka)
     have HMB:=Lib.hid (HMT.out.kept hka)
     have HKC:=Lib.hid (HKR.out.trans hka)
     obtain ⟨TK,HTE⟩:∃ TK,Hid (wr.heap.size=TK):=⟨_,rfl⟩
     rw [HTE.out] at HKB HTZ
     clear hpt hka HSA HMT HKR
     go_upto_region 17 with fail
     rw [HTE.out]
     clear mkN HTE
     generalize wr.alloc _=w5 at *
     go_wp2_with fail
     obtain ⟨wo,rfl⟩:∃ wo:World,wo=wr:=⟨_,rfl⟩
     go_loopw [63] (fun i wr=>∃ (k:Nat),k≤l.length∧i=.int .i64 k∧Hid (SuA B YC lang O PL l.length (List.replicate l.length []) ps wr)∧Hid (MapT wr TM es)∧Hid (MapK wr TK ((ps.take k).filter (aloneB ps)))∧Hid (Kept w wr)) (fun i _=>l.length - (intOf i).toNat)
     case atStart=>exact ⟨0,Nat.zero_le _,rfl,HSB.out,HMB.out,(by rw [List.take_zero]; exact HKB.out),HKC.out⟩
     case round =>
      clear HSB HMB HKB HKC
      obtain ⟨k,hk,rfl,HSA,HMT,HMK,HKR⟩:=hrel
      by_cases hlt:k<l.length
      ·obtain ⟨p,hx⟩:∃ x,ps[k]? = some x:=⟨_,List.getElem?_eq_getElem (by rw [HPL.out]; exact hlt)⟩
       obtain ⟨q0,-,q2,-⟩:=outS_at HSA.out.pla k p hx
       have hmz:=HMT.out.lt
       have lk:=lookT (P:=Tryz.prog) (tm:=99) (te:=3) Tryz.underlying99 Tryz.underlying9 wr TM es p (.int .i64 0) (zero_int _) HMT.out
       rw [HCV.out p] at lk
       obtain ⟨m,HMC⟩:∃ m,Hid (ps.count p=m):=⟨_,rfl⟩
       rw [HMC.out] at lk
       have HTK:=Lib.hid (filterT_take (f:=aloneB ps) hx)
       by_cases hm1:m=1
       ·have hal:aloneB ps p=true:=by unfold aloneB; rw [HMC.out,hm1]; rfl
        have hmb:((m:Int) == 1)=true:=by rw [hm1]; rfl
        have hmi:(m:Int)=1:=by rw [hm1]; rfl
        rw [hal] at HTK
        have hnot:p ∉ (ps.take k).filter (aloneB ps):=fun q=>once_take hx (by rw [HMC.out]; exact hm1) (List.mem_filter.1 q).1
        obtain ⟨us,HUS⟩:∃ us,Hid ((ps.take k).filter (aloneB ps)=us):=⟨_,rfl⟩
        rw [HUS.out] at HMK HTK hnot
        have up:=insK wr TK us p HMK.out hnot
        have ho7:=putK_only wr TK (us ++ [p])
        have hb1:=HB1.out
        have hop:=HOP.out
        have hpt:=HPT.out
        have htz:=HTZ.out
        have HSA7:=Lib.hid (HSA.out.only ho7 (by omega) (by omega) (by omega) (by omega))
        have HMT7:=Lib.hid (HMT.out.only ho7 (by omega))
        have HMK7:Hid (MapK (putK wr TK (us ++ [p])) TK ((ps.take (k+1)).filter (aloneB ps))):=by rw [HTK.out]; exact putK_map wr TK (us ++ [p]) HMK.out.lt
        have HK7:=Lib.hid (HKR.out.trans' (ho7.below HKR.out.size (fun i e=>by omega)))
        clear ho7 hnot hal hx HTK HUS HSA HMT HMK HKR HMC hb1 hop hpt htz
        go_wp2_with fail
        go_roundw
        case rel=>exact ⟨k+1,by omega,by go_num,HSA7.out,HMT7.out,HMK7.out,HK7.out⟩
        case measure=>simp [intOf]; omega
       ·have hal:aloneB ps p=false:=by unfold aloneB; rw [HMC.out,beq_eq_false_iff_ne]; exact hm1
        have hmb:((m:Int) == 1)=false:=by rw [beq_eq_false_iff_ne]; omega
        have hmi:¬ (m:Int)=1:=by omega
        rw [hal] at HTK
        have HMK7:Hid (MapK wr TK ((ps.take (k+1)).filter (aloneB ps))):=by rw [HTK.out]; simp only [Bool.false_eq_true,if_false,List.append_nil]; exact HMK.out
        clear hal hx HTK HMK HMC
        go_wp2_with fail
        go_roundw
        case rel=>exact ⟨k+1,by omega,by go_num,HSA.out,HMT.out,HMK7.out,HKR.out⟩
        case measure=>simp [intOf]; omega
      ·obtain rfl:k=l.length:=by omega
       have hpt:ps.take l.length=ps:=by rw [← HPL.out,List.take_length]
       rw [hpt] at HMK
       have mkN:=run_makeMap (P:=Tryz.prog) 100 wr
       have hka:=kept_alloc wr (.map #[] 0)
       have HQB:Hid (MapQ (wr.alloc (.map #[] 0)) wr.heap.size []):=MapQ.made wr
       have HSB:=Lib.hid (HSA.out.kept hka)
       have HMB:=Lib.hid (HMT.out.kept hka)
       have HKB:=Lib.hid (MapK_kept HMK.out hka)
       have HKC:=Lib.hid (HKR.out.trans hka)
       have HKZ:Hid (TK<wr.heap.size):=HMK.out.lt
       obtain ⟨NX,HTE⟩:∃ NX,Hid (wr.heap.size=NX):=⟨_,rfl⟩
       rw [HTE.out] at HQB HKZ
       clear hpt hka HSA HMT HKR HMK
       go_upto_region 24 with fail
       rw [HTE.out]
       clear mkN HTE
       generalize wr.alloc _=w6 at *
       go_wp2_with fail
       obtain ⟨xs,HXS⟩:∃ xs,Hid (l.map (citX y lang)=xs):=⟨_,rfl⟩
       have HXA:Hid (∀ (k:Nat) x,l[k]? = some x→xs[k]? = some (citX y lang x)):=fun k x h=>by rw [← HXS.out,List.getElem?_map,h]; rfl
       have HXL:Hid (xs.length=l.length):=by show _=_; rw [← HXS.out,List.length_map]
       have HHO:Hid (∀ z∈xs,none∈z.2):=fun z hz=>by
        rw [← HXS.out] at hz
        obtain ⟨t,-,rfl⟩:=List.mem_map.1 hz
        exact citX_hole HSE.out HNU.out lang t
       rw [HXS.out] at HF HPS
       have HINV:Hid (∀ k:Nat,SufI ps (xs.take k) (sufAll ps (xs.take k))):=fun k=>by
        have:=sufI_all xs HHO.out (xs.take k) (xs.drop k) (List.take_append_drop k xs)
        rw [HPS.out] at this; exact this
       have HSN:Hid (sufN xs=(sufAll ps (xs.take xs.length)).out):=by show _=_; rw [List.take_length]; unfold sufN; rw [HPS.out]
       rw [HSN.out,HXL.out] at HF
       clear HXS HSN
       obtain ⟨wo2,rfl⟩:∃ wo:World,wo=wr:=⟨_,rfl⟩
       go_loopw [77] (fun i wr=>∃ (k:Nat) (esq:List (KyP × Value)),k≤l.length∧i=.int .i64 k∧Hid (SuA B YC lang O PL l.length ((sufAll ps (xs.take k)).out.map letL ++ List.replicate (l.length - k) []) ps wr)∧Hid (MapT wr TM es)∧Hid (MapK wr TK (sufAll ps (xs.take k)).taken)∧Hid (MapQ wr NX esq)∧Hid (∀ q,(getQ esq q).getD (.int .i64 0)=.int .i64 ((sufAll ps (xs.take k)).next q:Nat))∧Hid (Kept w wr)) (fun i _=>l.length - (intOf i).toNat)
       case atStart=>exact ⟨0,[],Nat.zero_le _,rfl,HSB.out,HMB.out,HKB.out,HQB.out,(fun q=>rfl),HKC.out⟩
       case round =>
        clear HSB HMB HKB HQB HKC
        obtain ⟨k,esq,hk,rfl,HSA,HMT,HMK,HMQ,HNV,HKR⟩:=hrel
        by_cases hlt:k<l.length
        ·obtain ⟨x,hx⟩:∃ x,l[k]? = some x:=⟨_,List.getElem?_eq_getElem hlt⟩
         have hft:=HFT.out x (List.mem_of_getElem? hx)
         have hpx:=HPA.out k x hx
         have hxx:=HXA.out k x hx
         have HHX:=Lib.hid (HHO.out _ (List.mem_of_getElem? hxx))
         have HIV:=Lib.hid (HINV.out k)
         have HNXT:Hid (sufAll ps (xs.take (k+1))=sufStep ps (sufAll ps (xs.take k)) (citX y lang x)):=by
          show _=_
          rw [List.take_succ,hxx]; exact sufAll_snoc _ _ _
         have HOL:Hid ((sufAll ps (xs.take k)).out.length=k):=by
          show _=_
          rw [HIV.out.len,List.length_take,HXL.out]; omega
         have HTL:Hid ((sufAll ps (xs.take k)).taken.length≤16):=by
          show _≤_
          have:=taken_le HIV.out (by rw [List.length_take,HPL.out]; omega)
          rw [HPL.out] at this; omega
         obtain ⟨st,HST⟩:∃ st,Hid (sufAll ps (xs.take k)=st):=⟨_,rfl⟩
         rw [HST.out] at HSA HMK HNV HIV HNXT HOL HTL
         clear HST
         obtain ⟨g,o,vA,vE,vF,rfl,hg0,e0,e1,e2,e3,e4,pA,pE,pF⟩:=Srcs.at_ HV.out k x hx
         have c0:=(HKR.out.cell (p:=⟨g,o+k * 5,none⟩) hg0).trans e0
         have c1:=(HKR.out.cell (p:=⟨g,o+k * 5+1,none⟩) hg0).trans e1
         have c2:=(HKR.out.cell (p:=⟨g,o+k * 5+2,none⟩) hg0).trans e2
         have c3:=(HKR.out.cell (p:=⟨g,o+k * 5+3,none⟩) hg0).trans e3
         have c4:=(HKR.out.cell (p:=⟨g,o+k * 5+4,none⟩) hg0).trans e4
         have hg:g<wr.heap.size:=Nat.lt_of_lt_of_le hg0 HKR.out.size
         obtain ⟨aA,cA,rfl,lA⟩:=pA.shape
         obtain ⟨aS,cS,rfl,lS⟩:=pE.shape
         obtain ⟨aF,cF,rfl,lF⟩:=(show ∃ a c,vF=.slice a x.fields.length c∧x.fields.length≤c by obtain ⟨a,c,e,l,_⟩:=pF; exact ⟨a,c,e,l⟩)
         have HPA2:=Lib.hid pA
         have HPE2:=Lib.hid pE
         have HPF2:=Lib.hid pF
         have HFT2:=Lib.hid hft
         have hka:=kept_alloc wr (.cells #[.string (bs x.key),.string (bs x.type),.slice aA x.author.length cA,.slice aS x.editor.length cS,.slice aF x.fields.length cF] 50)
         have HIB:=Lib.hid (Blk.new wr 50 #[.string (bs x.key),.string (bs x.type),.slice aA x.author.length cA,.slice aS x.editor.length cS,.slice aF x.fields.length cF])
         have HSA2:=Lib.hid (HSA.out.kept hka)
         have HMT2:=Lib.hid (HMT.out.kept hka)
         have HMK2:=Lib.hid (MapK_kept HMK.out hka)
         have HMQ2:=Lib.hid (HMQ.out.kept hka)
         have HKR2:=Lib.hid (HKR.out.trans hka)
         have HKO:=Lib.hid (show Kept wr _ from hka)
         have HPAW:=Lib.hid pA
         have HPEW:=Lib.hid pE
         have HPFW:=Lib.hid pF
         have HNZ:Hid (NX<wr.heap.size):=HMQ.out.lt
         obtain ⟨I,HIE⟩:∃ I,Hid (wr.heap.size=I):=⟨_,rfl⟩
         rw [HIE.out] at HIB HNZ
         obtain ⟨X,HXX⟩:∃ X,Hid (citX y lang x=X):=⟨_,rfl⟩
         have HCX:Hid (∀ n:Nat,citS x y lang (letL n)=citN X n):=fun n=>by rw [← HXX.out]; exact citX_n HSE.out HNU.out lang x n
         rw [HXX.out] at HNXT HHX
         have HX1:Hid (X.1=citS x y lang []):=by show _=_; rw [← HXX.out]; rfl
         obtain ⟨p,HPP⟩:∃ p,Hid (citS x y lang []=p):=⟨_,rfl⟩
         rw [HPP.out] at hpx HX1
         clear pA pE pF hft hx hxx hka HPA2 HPE2 HPF2 e0 e1 e2 e3 e4 hg0 HXX HPP HSA HMT HMK HMQ HKR
         go_upto_region 27 with fail
         rw [HIE.out]
         clear c0 c1 c2 c3 c4 hg HIE HKO
         generalize wr.alloc _=w7 at *
         obtain ⟨q0,-,q2,-⟩:=outS_at HSA2.out.pla k p hpx
         have hmz:=HMT2.out.lt
         have lk:=lookT (P:=Tryz.prog) (tm:=99) (te:=3) Tryz.underlying99 Tryz.underlying9 w7 TM es p (.int .i64 0) (zero_int _) HMT2.out
         rw [HCV.out p] at lk
         obtain ⟨m,HMC⟩:∃ m,Hid (ps.count p=m):=⟨_,rfl⟩
         rw [HMC.out] at lk
         by_cases hm1:m=1
         ·have hal:aloneB ps X.1=true:=by rw [HX1.out]; unfold aloneB; rw [HMC.out,hm1]; rfl
          have hmb:((m:Int) == 1)=true:=by rw [hm1]; rfl
          have hmi:(m:Int)=1:=by rw [hm1]; rfl
          have HS:Hid (sufAll ps (xs.take (k+1))={ st with out:=st.out ++ [0] }):=by
           show _=_
           rw [HNXT.out]; unfold sufStep; rw [if_pos hal]
          have hos:st.out.map letL ++ List.replicate (l.length - k) []=(st.out ++ [0]).map letL ++ List.replicate (l.length - (k+1)) []:=by
           rw [List.map_append,List.append_assoc]
           congr 1
           have e0:letL 0=[]:=by unfold letL; rw [letR_zero]; rfl
           obtain ⟨r,hr⟩:∃ r,l.length - k=r+1:=⟨l.length - k - 1,by omega⟩
           rw [hr,show l.length - (k+1)=r from by omega,List.replicate_succ,List.map_cons,List.map_nil,e0]; rfl
          rw [hos] at HSA2
          have HA9:Hid (SuA B YC lang O PL l.length ((sufAll ps (xs.take (k+1))).out.map letL ++ List.replicate (l.length - (k+1)) []) ps w7):=by rw [HS.out]; exact HSA2.out
          have HK9:Hid (MapK w7 TK (sufAll ps (xs.take (k+1))).taken):=by rw [HS.out]; exact HMK2.out
          have HN9:Hid (∀ q,(getQ esq q).getD (.int .i64 0)=.int .i64 ((sufAll ps (xs.take (k+1))).next q:Nat)):=by rw [HS.out]; exact HNV.out
          clear hal hos HS HSA2 HMK2 HNV HNXT HIV HHX HX1 HCX hpx HMC HOL HTL HIB
          go_wp2_with fail
          go_roundw
          case rel=>exact ⟨k+1,esq,by omega,by go_num,HA9.out,HMT2.out,HK9.out,HMQ2.out,HN9.out,HKR2.out⟩
          case measure=>simp [intOf]; omega
         ·have hal:¬ aloneB ps X.1=true:=by rw [HX1.out]; unfold aloneB; rw [HMC.out,beq_iff_eq]; exact hm1
          have hmb:((m:Int) == 1)=false:=by rw [beq_eq_false_iff_ne]; omega
          have hmi:¬ (m:Int)=1:=by omega
          obtain ⟨old1,old2,old3⟩:=HIV.out.old HHX.out
          have hf17:=frs_le HIV.out HHX.out
          have hnx:=HNXT.out
          unfold sufStep at hnx
          rw [if_neg hal] at hnx
          obtain ⟨fr,HFR⟩:∃ fr,Hid (frsN st.taken X st.taken.length (st.next (shpX X))=fr):=⟨_,rfl⟩
          rw [HFR.out] at old1 old2 old3 hf17 hnx
          have HNX2:=Lib.hid hnx
          have HOLD2:=Lib.hid old2
          have HOLD3:=Lib.hid old3
          have hfr17:fr≤17:=by have:=HTL.out; omega
          have HC1:Hid (citS x y lang [97]=(shpX X).1):=by have h:=HCX.out 1; rw [letL_one] at h; exact h
          have HC2:Hid (citS x y lang [98]=(shpX X).2):=by have h:=HCX.out 2; rw [letL_two] at h; exact h
          obtain ⟨⟨t1,t2⟩,HSH⟩:∃ q,Hid (shpX X=q):=⟨_,rfl⟩
          rw [HSH.out] at HC1 HC2 HNX2 old1
          have HCL:Hid (∀ (suf:Bs),suf.length≤1000→∀ w',Kept w w'→Blk w' B 33 YC→Blk w' (B+1) 9 #[.string (bs lang)]→Calls Tryz.prog 49 #[.agg #[.string (bs x.key),.string (bs x.type),.slice aA x.author.length cA,.slice aS x.editor.length cS,.slice aF x.fields.length cF],.string (bs suf),.pointer (some ⟨B,0,none⟩),.pointer (some ⟨B+1,0,none⟩)] w' fun e w''=>e=.returned (.string (bs (citS x y lang suf)))∧Kept w' w''):=fun suf hs w' kk hyb hlb =>
           cicited_any B (B+1) (.slice aA x.author.length cA) (.slice aS x.editor.length cS) (.slice aF x.fields.length cF) (.slice aE y.entries.length cE) x y lang suf w' (HEN.out.kept kk) (by rw [HYE.out]; exact hyb) hlb HYC9.out HYC.out HYM.out (HPAW.out.kept kk) (HPEW.out.kept kk) (HPFW.out.kept kk) HFT2.out hs
          have HCA:Hid (∀ w',Kept w7 w'→Calls Tryz.prog 49 #[.agg #[.string (bs x.key),.string (bs x.type),.slice aA x.author.length cA,.slice aS x.editor.length cS,.slice aF x.fields.length cF],.string (bs [97]),.pointer (some ⟨B,0,none⟩),.pointer (some ⟨B+1,0,none⟩)] w' fun e w''=>e=.returned (.string (bs t1))∧Kept w' w''):=fun w' kk=>by
           have h:=HCL.out [97] (by simp) w' (HKR2.out.trans kk) (HSA2.out.yb.kept kk) (HSA2.out.lb.kept kk)
           rw [HC1.out] at h; exact h
          have HCB:Hid (∀ w',Kept w7 w'→Calls Tryz.prog 49 #[.agg #[.string (bs x.key),.string (bs x.type),.slice aA x.author.length cA,.slice aS x.editor.length cS,.slice aF x.fields.length cF],.string (bs [98]),.pointer (some ⟨B,0,none⟩),.pointer (some ⟨B+1,0,none⟩)] w' fun e w''=>e=.returned (.string (bs t2))∧Kept w' w''):=fun w' kk=>by
           have h:=HCL.out [98] (by simp) w' (HKR2.out.trans kk) (HSA2.out.yb.kept kk) (HSA2.out.lb.kept kk)
           rw [HC2.out] at h; exact h
          have hos:st.out.map letL ++ List.replicate (l.length - k) []=st.out.map letL ++ ([]:Bs) :: List.replicate (l.length - (k+1)) []:=by
           obtain ⟨r,hr⟩:∃ r,l.length - k=r+1:=⟨l.length - k - 1,by omega⟩
           rw [hr,show l.length - (k+1)=r from by omega,List.replicate_succ]
          rw [hos] at HSA2
          clear old2 old3 hnx hal hos HNXT HMC hpx HX1 HC1 HC2 HIV HHX HFR hf17
          go_upto_region 28 with fail
          refine reg_suf28 x (.slice aA x.author.length cA) (.slice aS x.editor.length cS) (.slice aF x.fields.length cF) B (B+1) I t1 t2 (by kernel_rfl) ⟨_,rfl,rfl,rfl,rfl⟩ ⟨_,rfl,rfl,rfl,rfl⟩ ⟨_,rfl,rfl,rfl,rfl⟩ ⟨_,rfl,rfl,rfl,rfl⟩ ⟨_,rfl,rfl,rfl,rfl⟩ ⟨_,rfl,rfl,rfl,rfl⟩ ⟨_,rfl,rfl,rfl,rfl⟩ ⟨_,rfl,rfl,rfl,rfl⟩ ⟨_,rfl,rfl,rfl,rfl⟩
           (by simp) rfl rfl HIB HCA HCB ?_
          intro V w8 J hV hJ hJb hk8
          simp only [Act.put,List.setIfInBounds_toArray,List.set_cons_zero,List.set_cons_succ]
          rw [hV]
          have HJB:=Lib.hid hJb
          have HIB8:=Lib.hid (HIB.out.kept hk8)
          have HSA8:=Lib.hid (HSA2.out.kept hk8)
          have HMT8:=Lib.hid (HMT2.out.kept hk8)
          have HMK8:=Lib.hid (MapK_kept HMK2.out hk8)
          have HMQ8:=Lib.hid (HMQ2.out.kept hk8)
          have HKR8:=Lib.hid (HKR2.out.trans hk8)
          have hIw:=HIB.out.lt
          have HIJ:Hid (I<J):=by show _<_; omega
          clear hV hJ hJb hk8 HIB HSA2 HMT2 HMK2 HMQ2 HKR2 HCA HCB hIw q0 q2 lk hmz hmb hmi
          go_wp2_with fail
          obtain ⟨wo3,rfl⟩:∃ wo:World,wo=wr:=⟨_,rfl⟩
          go_loopg [22] (fr - st.next (t1,t2)) (fun gk t wr=>∃ (m:Nat) (esq:List (KyP × Value)) (u:Bs),gk=fr - m∧m<fr∧Hid (SuA B YC lang O PL l.length (st.out.map letL ++ u :: List.replicate (l.length - (k+1)) []) ps wr)∧Hid (MapT wr TM es)∧Hid (MapK wr TK st.taken)∧Hid (MapQ wr NX esq)∧Hid (∀ q,(getQ esq q).getD (.int .i64 0)=.int .i64 ((if q=(t1,t2) then m else st.next q:Nat):Int))∧Hid (Blk wr I 50 #[.string (bs x.key),.string (bs x.type),.slice aA x.author.length cA,.slice aS x.editor.length cS,.slice aF x.fields.length cF])∧Hid (Blk wr J 102 #[.string (bs t1),.string (bs t2)])∧Hid (Kept w wr))
          case atStart =>
           refine ⟨st.next (t1,t2),esq,[],rfl,old1,HSA8.out,HMT8.out,HMK8.out,HMQ8.out,fun q=>?_,HIB8.out,HJB.out,HKR8.out⟩
           rw [HNV.out q]
           by_cases e:q=(t1,t2)
           ·rw [if_pos e,e]
           ·rw [if_neg e]
          case round =>
           clear HSA8 HMT8 HMK8 HMQ8 HIB8 HJB HKR8 HNV
           obtain ⟨m,esq',u,hgk,hmf,HSA,HMT,HMK,HMQ,HNV,HIB,HJB,HKR⟩:=hrel
           obtain ⟨fs,hky⟩:=Tryz.keyShape 3 100 Tryz.underlying100
           have HKY:=Lib.hid hky
           have hmqd:MapQ wr.drew NX esq':=HMQ.out.kept (kept_drewN wr 1)
           obtain ⟨es2,n2,hn2,hset,hget,em⟩:=entryQ hky wr.drew NX esq' (t1,t2) (.int .i64 0) zero_int hmqd
           have hv:(getQ esq' (t1,t2)).getD (.int .i64 0)=.int .i64 ((m:Nat):Int):=by rw [HNV.out]; rw [if_pos rfl]
           rw [hv] at hn2 em
           have lkA:=lookQ hky wr.drew NX esq' (t1,t2) (.int .i64 0) (zero_int _) hmqd
           rw [hv] at lkA
           have lkB:=lookQ hky (putQ wr.drew NX es2) NX es2 (t1,t2) (.int .i64 0) (zero_int _) (putQ_map _ _ _ hmqd.lt)
           rw [hget,hv] at lkB
           have stq:=storeQ (P:=Tryz.prog) (tm:=100) (putQ wr.drew NX es2) NX es2 n2 (t1,t2) _ (.int .i64 ((m:Int)+1)) (putQ_map _ _ _ hmqd.lt) hn2
           change Sem.run _ (Instr.mapEntry _ _ (.agg #[.string (bs t1),.string (bs t2)])) _=_ at em
           change Sem.run _ (Instr.lookup _ _ (.agg #[.string (bs t1),.string (bs t2)]) _) _=_ at lkA
           change Sem.run _ (Instr.lookup _ _ (.agg #[.string (bs t1),.string (bs t2)]) _) _=_ at lkB
           have hm17:m<17:=by omega
           have j0:=HJB.out.cell 0 _ rfl
           have j1:=HJB.out.cell 1 _ rfl
           have jz:=HJB.out.lt
           have HSET:=Lib.hid hset
           have HMZ:=Lib.hid hmqd.lt
           clear hky hmqd hv hn2 hset hget
           go_upto_region 29 with fail
           go_region
           obtain ⟨es3,HE3⟩:∃ es3,Hid (es2.set n2 ((t1,t2),.int .i64 ((m:Int)+1))=es3):=⟨_,rfl⟩
           have HNV3:Hid (∀ q,(getQ es3 q).getD (.int .i64 0)=.int .i64 ((if q=(t1,t2) then m+1 else st.next q:Nat):Int)):=fun q=>by
            rw [← HE3.out,HSET.out]
            by_cases e:q=(t1,t2)
            ·rw [if_pos e,if_pos e]; rfl
            ·rw [if_neg e,if_neg e,HNV.out,if_neg e]
           rw [HE3.out]
           have kd:=kept_drewN wr 1
           have hoq:Only (fun g=>g=NX) wr.drew (putQ (putQ wr.drew NX es2) NX es3):=(putQ_only wr.drew NX es2).trans (putQ_only _ NX es3)
           have hb1:=HB1.out
           have hop:=HOP.out
           have hpt:=HPT.out
           have htz:=HTZ.out
           have hkz:=HKZ.out
           have hnz:=HNZ.out
           have hij:=HIJ.out
           have HSA3:=Lib.hid ((HSA.out.kept kd).only hoq (by omega) (by omega) (by omega) (by omega))
           have HMT3:=Lib.hid ((HMT.out.kept kd).only hoq (by omega))
           have HMK3:=Lib.hid ((MapK_kept HMK.out kd).only hoq (by omega))
           have HMQ3:Hid (MapQ (putQ (putQ wr.drew NX es2) NX es3) NX es3):=putQ_map _ _ _ (by rw [putQ_size]; exact HMZ.out)
           have HIB3:=Lib.hid ((HIB.out.kept kd).onl hoq (by omega))
           have HJB3:=Lib.hid ((HJB.out.kept kd).onl hoq (by omega))
           have HKR3:=Lib.hid ((HKR.out.trans kd).trans' (hoq.below (HKR.out.trans kd).size (fun i e=>by omega)))
           generalize putQ (putQ wr.drew NX es2) NX es3=w9 at *
           clear kd hoq em lkA lkB stq j0 j1 jz HSA HMT HMK HMQ HNV HIB HJB HKR HE3 HSET HMZ
           have j0:=HJB3.out.cell 0 _ rfl
           have j1:=HJB3.out.cell 1 _ rfl
           have jz:=HJB3.out.lt
           have lkC:=lookQ HKY.out w9 NX es3 (t1,t2) (.int .i64 0) (zero_int _) HMQ3.out
           rw [HNV3.out,if_pos rfl,show ((m+1:Nat):Int)=(m:Int)+1 from rfl] at lkC
           change Sem.run _ (Instr.lookup _ _ (.agg #[.string (bs t1),.string (bs t2)]) _) _=_ at lkC
           have HLT:=Lib.hid (ciletters_any (m+1) (by omega) (by omega) w9)
           rw [show ((m+1:Nat):Int)=(m:Int)+1 from rfl] at HLT
           have hll:=letL_len (m+1)
           have HCM:=Lib.hid (HCX.out (m+1))
           obtain ⟨lt,HLTE⟩:∃ lt,Hid (letL (m+1)=lt):=⟨_,rfl⟩
           rw [HLTE.out] at HLT hll HCM
           go_wp2_with fail
           refine HLT.out.mono ?_
           rintro e w10 ⟨rfl,hk10⟩
           have HSA10:=Lib.hid (HSA3.out.kept hk10)
           have HMT10:=Lib.hid (HMT3.out.kept hk10)
           have HMK10:=Lib.hid (MapK_kept HMK3.out hk10)
           have HMQ10:=Lib.hid (HMQ3.out.kept hk10)
           have HIB10:=Lib.hid (HIB3.out.kept hk10)
           have HJB10:=Lib.hid (HJB3.out.kept hk10)
           have HKR10:=Lib.hid (HKR3.out.trans hk10)
           clear hk10 HLT HSA3 HMT3 HMK3 HMQ3 HIB3 HJB3 HKR3 j0 j1 jz lkC HKY
           have hol:(st.out.map letL).length=k:=by rw [List.length_map,HOL.out]
           have hgk2:(st.out.map letL ++ u :: List.replicate (l.length - (k+1)) ([]:Bs))[k]? = some u:=by
            rw [List.getElem?_append_right (by omega),hol,Nat.sub_self]; rfl
           obtain ⟨q0,q1,q2,-⟩:=outS_at HSA10.out.out k u hgk2
           have hsl:k<(st.out.map letL ++ u :: List.replicate (l.length - (k+1)) ([]:Bs)).length:=by rw [List.length_append,hol,List.length_cons]; omega
           have hsa11:=HSA10.out.setO k hsl lt hb1 hop
           have hsm:(st.out.map letL ++ u :: List.replicate (l.length - (k+1)) ([]:Bs)).set k lt=st.out.map letL ++ lt :: List.replicate (l.length - (k+1)) []:=by
            have:=set_mid (st.out.map letL) u lt (List.replicate (l.length - (k+1)) ([]:Bs))
            rw [hol] at this; exact this
           rw [hsm] at hsa11
           have HSA11:=Lib.hid hsa11
           have ho11:=Only.setCell (w:=w10) O k (.string (bs lt))
           have HMT11:=Lib.hid (HMT10.out.only ho11 (by omega))
           have HMK11:=Lib.hid (HMK10.out.only ho11 (by omega))
           have HMQ11:=Lib.hid (HMQ10.out.only ho11 (by omega))
           have HIB11:=Lib.hid (HIB10.out.onl ho11 (by omega))
           have HJB11:=Lib.hid (HJB10.out.onl ho11 (by omega))
           have HKR11:=Lib.hid (HKR10.out.trans' (ho11.below HKR10.out.size (fun i e=>by omega)))
           have HCO:Hid (O<(w10.setCell ⟨O,k,none⟩ (.string (bs lt))).heap.size∧(w10.setCell ⟨O,k,none⟩ (.string (bs lt))).cell? ⟨O,k,none⟩=some (.string (bs lt))):=by
            obtain ⟨h1,-,h2,-⟩:=outS_at HSA11.out.out k lt (by rw [List.getElem?_append_right (by omega),hol,Nat.sub_self]; rfl)
            exact ⟨h2,h1⟩
           clear hol hgk2 hsl hsa11 hsm ho11 HSA10 HMT10 HMK10 HMQ10 HIB10 HJB10 HKR10
           go_upto_region 31 with fail
           generalize w10.setCell _ _=w11 at *
           obtain ⟨t,HTE⟩:∃ t,Hid (citS x y lang lt=t):=⟨_,rfl⟩
           refine reg_suf31 x (.slice aA x.author.length cA) (.slice aS x.editor.length cS) (.slice aF x.fields.length cF) B (B+1) I O l.length k lt t (by kernel_rfl) ⟨_,rfl,rfl,rfl,rfl⟩ ⟨_,rfl,rfl,rfl,rfl⟩ ⟨_,rfl,rfl,rfl,rfl⟩ ⟨_,rfl,rfl,rfl,rfl⟩ ⟨_,rfl,rfl,rfl,rfl⟩ ⟨_,rfl,rfl,rfl,rfl⟩ ⟨_,rfl,rfl,rfl,rfl⟩ ⟨_,rfl,rfl,rfl,rfl⟩
            (by simp) rfl rfl rfl rfl HIB11 HCO hlt (by omega) (fun w' kk=>by
             have h:=HCL.out lt (by omega) w' (HKR11.out.trans kk) (HSA11.out.yb.kept kk) (HSA11.out.lb.kept kk)
             rw [HTE.out] at h; exact h) ?_
           intro V w12 hV hk12
           simp only [Act.put,List.setIfInBounds_toArray,List.set_cons_zero,List.set_cons_succ]
           rw [hV]
           have HTC:Hid (t=citN X (m+1)):=by rw [← HTE.out]; exact HCM.out
           have HSA12:=Lib.hid (HSA11.out.kept hk12)
           have HMT12:=Lib.hid (HMT11.out.kept hk12)
           have HMK12:=Lib.hid (MapK_kept HMK11.out hk12)
           have HMQ12:=Lib.hid (HMQ11.out.kept hk12)
           have HIB12:=Lib.hid (HIB11.out.kept hk12)
           have HJB12:=Lib.hid (HJB11.out.kept hk12)
           have HKR12:=Lib.hid (HKR11.out.trans hk12)
           have lkT:=lookK w12 TK st.taken t HMK12.out
           clear hV hk12 HSA11 HMT11 HMK11 HMQ11 HIB11 HJB11 HKR11 HCO HTE HCM
           cases hct:st.taken.contains t with
           | true =>
            rw [hct] at lkT
            have hmn:m+1<fr:=by
             rcases Nat.lt_or_ge (m+1) fr with q | q
             ·exact q
             ·have e:m+1=fr:=by omega
              have h1:=HOLD2.out
              rw [← e,← HTC.out] at h1
              exact absurd (by simpa using hct) h1
            clear hct HTC
            go_wp2_with fail
            go_roundg (fr - (m+1))
            case rel=>exact ⟨m+1,es3,lt,rfl,hmn,HSA12.out,HMT12.out,HMK12.out,HMQ12.out,HNV3.out,HIB12.out,HJB12.out,HKR12.out⟩
            case measure=>omega
           | false =>
            rw [hct] at lkT
            have hnot:t ∉ st.taken:=by simpa using hct
            have hme:m+1=fr:=by
             rcases Nat.lt_or_ge (m+1) fr with q | q
             ·have h1:=HOLD3.out (m+1) (by omega) q
              rw [← HTC.out] at h1
              exact absurd h1 hnot
             ·omega
            have up:=insK w12 TK st.taken t HMK12.out hnot
            have ho13:=putK_only w12 TK (st.taken ++ [t])
            have HSA13:=Lib.hid (HSA12.out.only ho13 (by omega) (by omega) (by omega) (by omega))
            have HMT13:=Lib.hid (HMT12.out.only ho13 (by omega))
            have HMK13:=Lib.hid (putK_map w12 TK (st.taken ++ [t]) HMK12.out.lt)
            have HMQ13:=Lib.hid (HMQ12.out.only ho13 (by omega))
            have HKR13:=Lib.hid (HKR12.out.trans' (ho13.below HKR12.out.size (fun i e=>by omega)))
            have hos:st.out.map letL ++ lt :: List.replicate (l.length - (k+1)) []=(sufAll ps (xs.take (k+1))).out.map letL ++ List.replicate (l.length - (k+1)) []:=by
             rw [HNX2.out,← hme]
             show _=(st.out ++ [m+1]).map letL ++ _
             rw [List.map_append,List.append_assoc,List.map_cons,HLTE.out]; rfl
            rw [hos] at HSA13
            have HK14:Hid (MapK (putK w12 TK (st.taken ++ [t])) TK (sufAll ps (xs.take (k+1))).taken):=by
             rw [HNX2.out,← hme]
             show MapK _ TK (st.taken ++ [citN X (m+1)])
             rw [← HTC.out]; exact HMK13.out
            have HNV14:Hid (∀ q,(getQ es3 q).getD (.int .i64 0)=.int .i64 ((sufAll ps (xs.take (k+1))).next q:Nat)):=fun q=>by
             rw [HNV3.out q,HNX2.out,← hme]
            clear hct hnot ho13 hos HTC hme HSA12 HMT12 HMK12 HMQ12 HIB12 HJB12 HKR12 HMK13 HNV3 HNX2 HOLD2 HOLD3
            go_wp2_with fail
            go_roundw
            case rel=>exact ⟨k+1,es3,by omega,by go_num,HSA13.out,HMT13.out,HK14.out,HMQ13.out,HNV14.out,HKR13.out⟩
            case measure=>simp [intOf]; omega
        ·obtain rfl:k=l.length:=by omega
         rw [Nat.sub_self,List.replicate_zero,List.append_nil] at HSA
         have HFX:=Lib.hid (HF.out _ wr (Strs.outO HSA.out.out) HKR.out)
         clear HF HSA HMT HMK HMQ HNV
         go_wp2_with fail
         (try go_ret2)
         exact HFX.out
end Go.Proofs.YtmcoomlkbgiboaaGreatDoor

/- cite.Keys: the keys that a document cites. Conditions: lengths. -/
set_option linter.all false
namespace Go.Proofs.YtmcoomlkbgiboaaGreatDoor
open Go.RowKit

def CiKP (ks:List Bs) (w:World) (e:Ending) (w':World):Prop:=∃ v,e=.returned v∧Strs w' v ks∧Kept w w'
set_option maxRecDepth 100000 in
set_option maxHeartbeats 6400000 in
theorem cikeys_any (N M:Nat) (aM:Option Addr) (nM cM:Nat) (v:Value) (xs:List Blo) (w:World) (hv:Bls (fun g=>g<w.heap.size) N M w v xs) (hl:xs.length≤1000000) (hok:okBL xs) (hn:(inlsL xs).length≤1000000) (hx:∀ x∈inlsL xs,x.cits.length≤1000000) (hks:((inlsL xs).flatMap citKeys).length≤1000000) :
  Calls Tryz.prog 12 #[.agg #[.slice aM nM cM,v]] w (CiKP (keysD xs) w):=by
 have HX:=Lib.hid hx
 obtain ⟨a,c,rfl,hc⟩:=hv.form
 obtain ⟨i0,hi,hz0,hz1,hz2⟩:=info_parts Tryz.infoStr
 obtain ⟨B,HB⟩:∃ B,Hid (w.heap.size=B):=⟨_,rfl⟩
 have HK0:=Lib.hid ((kept_alloc w (.cells #[.slice aM nM cM,.slice a xs.length c] 25)).trans (kept_alloc _ (.map #[] 0)))
 have hb:=Lib.hid (MapK_made (w.alloc (.cells #[.slice aM nM cM,.slice a xs.length c] 25)))
 have e1:(w.alloc (.cells #[.slice aM nM cM,.slice a xs.length c] 25)).heap.size=B+1:=by rw [← HB.out]; simp
 rw [e1] at hb
 have e2:((w.alloc (.cells #[.slice aM nM cM,.slice a xs.length c] 25)).alloc (.map #[] 0)).heap.size=B+2:=by simp; rw [← HB.out]
 have hsz:=HB.out
 have HDF:=Lib.hid (inlines_any M N w.heap.size (.slice a xs.length c) xs _ HK0.out.size (hv.kept HK0.out) hl hok hn)
 have mk:=run_makeMap (P:=Tryz.prog) 73 (w.alloc (.cells #[.slice aM nM cM,.slice a xs.length c] 25))
 unfold InlsP at HDF
 have HFIN:Hid (∀ v w',Strs w' v (keysI (inlsL xs))→Kept w w'→CiKP (keysD xs) w (.returned v) w'):=fun v w' h1 h2=>⟨v,rfl,h1,h2⟩
 generalize CiKP (keysD xs) w=P at *
 obtain ⟨ds,HDS⟩:∃ ds,Hid (inlsL xs=ds):=⟨_,rfl⟩
 rw [HDS.out] at HX HDF hn hks HFIN
 have HLD:Hid (∀ k x,ds[k]? = some x→((ds.take k).flatMap citKeys).length+(citKeys x).length≤1000000):=fun k x h=>Nat.le_trans (keys_led h) hks
 unfold keysI at HFIN
 clear hok hx hv hks
 go_enter Tryz.func12,Tryz.ntmps12
 go_wp2_with fail
 refine HDF.out.mono ?_
 rintro e w1 ⟨v1,rfl,hR,hk1⟩
 have HK1:=Lib.hid (HK0.out.trans hk1)
 have HM1:=Lib.hid (MapK_kept hb.out hk1)
 have hR1:Lns (fun g=>g<w1.heap.size∧g≠B+1) (N+1) w1 v1 ds:=hR.sam (fun _ _ _=>rfl) (fun g h q=>⟨h,by omega⟩)
 have HR:=Lib.hid hR1
 obtain ⟨a1,c1,rfl,hc1⟩:=hR1.form
 clear hR hR1 hk1 mk e1 e2 hb HDF HK0
 go_wp2_with fail
 go_loopw [4,14] (fun o i wr=>∃ (k:Nat),k≤ds.length∧i=.int .i64 k∧Hid (OutG StrK 1 (fun _=>False) w1.heap.size 9 wr o (keysL ((ds.take k).flatMap citKeys)))∧Hid (MapK wr (B+1) (keysL ((ds.take k).flatMap citKeys)))∧Hid (Only (fun g=>g=B+1∨w1.heap.size≤g) w1 wr)) (fun _ i _=>ds.length - (intOf i).toNat)
 case atStart=>exact ⟨0,Nat.zero_le _,rfl,OutG.nil _ _ _ _ _ _,HM1.out,Only.of_kept (Kept.refl w1)⟩
 case round =>
  obtain ⟨k,hk,rfl,HGR,HMR,HKR⟩:=hrel
  by_cases hlt:k<ds.length
  ·obtain ⟨x,hx⟩:∃ x,ds[k]? = some x:=⟨_,List.getElem?_eq_getElem hlt⟩
   have HVR:=Lib.hid (HR.out.sam (Sam.only HKR.out (fun g _ h q=>by omega)) (fun g _ h=>h))
   have hcl:=HX.out x (List.mem_of_getElem? hx)
   have HT:=Lib.hid (keys_tk hx)
   have HLK:=Lib.hid (HLD.out k x hx)
   obtain ⟨pre,HPR⟩:∃ us,Hid ((ds.take k).flatMap citKeys=us):=⟨_,rfl⟩
   rw [HPR.out] at HGR HMR HT HLK
   obtain ⟨g,o,vC,vP,vA,vT,vK,rfl,hgg,hgS,-,-,⟨d0,d1,d2,d3,d4,d5,d6,d7,d8,d9⟩,-,⟨hC,-⟩,⟨hPP,-⟩,⟨hA,-⟩,hTT,hK⟩:=Lns.at_ HVR.out k x hx
   obtain ⟨kind,text,dest,title,id,cls,prs,args,cits,kids⟩:=x
   simp only [Inl.kind,Inl.text,Inl.dest,Inl.title,Inl.id,Inl.cls,Inl.prs,Inl.args,Inl.cits,Inl.kids] at d0 d1 d2 d3 d4 hC hPP hA hTT hK hcl
   obtain ⟨aC,cC,rfl,lC⟩:=hC.shape
   obtain ⟨aP,cP,rfl,lP⟩:=hPP.shape
   obtain ⟨aA,cA,rfl,lA⟩:=hA.shape
   obtain ⟨aT,cT,rfl,lT⟩:=hTT.form
   obtain ⟨aK,cK,rfl,lK⟩:=hK.form
   have HTT:=Lib.hid hTT
   have HKI:=Lib.hid (kept_alloc wr (.cells #[.int .i64 kind,.string (bs text),.string (bs dest),.string (bs title),.string (bs id),.slice aC cls.length cC,.slice aP prs.length cP,.slice aA args.length cA,.slice aT cits.length cT,.slice aK kids.length cK] 71))
   have HM2:=Lib.hid (MapK_kept HMR.out HKI.out)
   have HG2:=Lib.hid (HGR.out.kept strK HKI.out)
   have HON2:Hid (Only (fun g=>g=B+1∨w1.heap.size≤g) w1 (wr.alloc (.cells #[.int .i64 kind,.string (bs text),.string (bs dest),.string (bs title),.string (bs id),.slice aC cls.length cC,.slice aP prs.length cP,.slice aA args.length cA,.slice aT cits.length cT,.slice aK kids.length cK] 71))):=HKR.out.trans (Only.of_kept HKI.out)
   clear hC hPP hA hTT hK HVR hx
   by_cases hk13:kind=13
   ·subst hk13
    have HCK:Hid (citKeys (.mk 13 text dest title id cls prs args cits kids)=cits.map (·.key)):=rfl
    rw [HCK.out] at HT HLK
    rw [List.length_map] at HLK
    have hlk:=HLK.out
    go_wp2_with fail
    generalize wr.alloc _=w2 at *
    clear d0 d1 d2 d3 d4 d5 d6 d7 d8 d9
    obtain ⟨wo,rfl⟩:∃ wo:World,wo=wr:=⟨_,rfl⟩
    go_loopw [4,24] (fun o i wx=>∃ (j:Nat),j≤cits.length∧i=.int .i64 j∧Hid (OutG StrK 1 (fun _=>False) w1.heap.size 9 wx o (keysL (pre ++ (cits.take j).map (·.key))))∧Hid (MapK wx (B+1) (keysL (pre ++ (cits.take j).map (·.key))))∧Hid (Only (fun g=>g=B+1∨w1.heap.size≤g) w1 wx)∧Hid (Only (fun g=>g=B+1∨w1.heap.size≤g) wo wx)) (fun _ i _=>cits.length - (intOf i).toNat)
    case atStart=>exact ⟨0,Nat.zero_le _,rfl,(by rw [List.take_zero,List.map_nil,List.append_nil]; exact HG2.out),(by rw [List.take_zero,List.map_nil,List.append_nil]; exact HM2.out),HON2.out,Only.of_kept HKI.out⟩
    case round =>
     clear HM2 HG2 HON2 HGR HMR
     obtain ⟨j,hj,rfl,HGR,HMR,HKX,HKO⟩:=hrel
     by_cases hlt2:j<cits.length
     ·obtain ⟨x,hx⟩:∃ x,cits[j]? = some x:=⟨_,List.getElem?_eq_getElem hlt2⟩
      have HT2:=Lib.hid (keys_next (pre:=pre) hx)
      have hul:(keysL (pre ++ (cits.take j).map (·.key))).length≤1000000:=by
       have:=keysL_len (pre ++ (cits.take j).map (·.key))
       rw [List.length_append,List.length_map,List.length_take] at this
       omega
      obtain ⟨us,HUS⟩:∃ us,Hid (keysL (pre ++ (cits.take j).map (·.key))=us):=⟨_,rfl⟩
      rw [HUS.out] at HGR HMR HT2 hul
      have hcw:=HTT.out.sam (S':=fun g=>g<w1.heap.size∧g≠B+1) (Sam.only HKO.out (fun g _ h q=>by omega)) (fun _ _ q=>q)
      obtain ⟨g,o,cs,rfl,hg,hgS,-,hcs,hcc,-,-⟩:=RowR.at_ (show RowR (fun g=>g<w1.heap.size∧g≠B+1) 4 CitW wr _ _ from hcw) j x hx
      rw [hcc] at hcs
      have d0:wr.cell? ⟨g,o+j * 4,none⟩=some (.string (bs x.key)):=by simpa using hcs 0 _ rfl
      have d1:wr.cell? ⟨g,o+j * 4+1,none⟩=some (.string (bs x.pre)):=hcs 1 _ rfl
      have d2:wr.cell? ⟨g,o+j * 4+2,none⟩=some (.string (bs x.suf)):=hcs 2 _ rfl
      have d3:wr.cell? ⟨g,o+j * 4+3,none⟩=some (.bool x.bare):=hcs 3 _ rfl
      obtain ⟨nm,pr,sf,br⟩:=x
      simp only at d0 d1 d2 d3 HT2
      have HB0:=Lib.hid (Blk.new wr 68 #[.string (bs nm),.string (bs pr),.string (bs sf),.bool br])
      have HKI2:=Lib.hid (kept_alloc wr (.cells #[.string (bs nm),.string (bs pr),.string (bs sf),.bool br] 68))
      have hIM:wr.heap.size≠B+1:=by have:=HM1.out.lt; have:=HKX.out.size; omega
      have HM4:=Lib.hid (MapK_kept HMR.out HKI2.out)
      have HG4:=Lib.hid (HGR.out.kept strK HKI2.out)
      have lk:=lookK (wr.alloc (.cells #[.string (bs nm),.string (bs pr),.string (bs sf),.bool br] 68)) (B+1) us nm HM4.out
      clear hx hcs hcc hcw
      cases hct:us.contains nm with
      | true =>
       have HT3:=HT2.out
       rw [keyStep_in hct] at HT3
       rw [hct] at lk
       rw [← HT3] at HM4 HG4
       have HON4:Hid (Only (fun g=>g=B+1∨w1.heap.size≤g) w1 (wr.alloc (.cells #[.string (bs nm),.string (bs pr),.string (bs sf),.bool br] 68))):=HKX.out.trans (Only.of_kept HKI2.out)
       have HON5:Hid (Only (fun g=>g=B+1∨w1.heap.size≤g) wo (wr.alloc (.cells #[.string (bs nm),.string (bs pr),.string (bs sf),.bool br] 68))):=HKO.out.trans (Only.of_kept HKI2.out)
       clear HGR HMR HKX HKO HUS HT2 HT3 hct
       go_wp2_with fail
       go_roundw
       case rel=>exact ⟨j+1,by omega,by go_num,HG4.out,HM4.out,HON4.out,HON5.out⟩
       case measure=>simp [intOf]; omega
      | false =>
       have HT3:=HT2.out
       rw [keyStep_no hct] at HT3
       rw [hct] at lk
       have hnot:nm ∉ us:=by simpa using hct
       have up:=insK (wr.alloc (.cells #[.string (bs nm),.string (bs pr),.string (bs sf),.bool br] 68)) (B+1) us nm HM4.out hnot
       have HM5:=Lib.hid (putK_map (wr.alloc (.cells #[.string (bs nm),.string (bs pr),.string (bs sf),.bool br] 68)) (B+1) (us ++ [nm]) HM4.out.lt)
       have HO5:=Lib.hid (putK_only (wr.alloc (.cells #[.string (bs nm),.string (bs pr),.string (bs sf),.bool br] 68)) (B+1) (us ++ [nm]))
       have HG5:=Lib.hid (HG4.out.only strK HO5.out (fun g _ h=>h.elim) (fun g q r=>by have:=(HGR.out.blk g q).1; have:=HM1.out.lt; omega))
       have HB5:=Lib.hid (HB0.out.onl HO5.out hIM)
       have c0:=HB5.out.cell 0 _ rfl
       have cz:=HB5.out.lt
       have HROW:=Lib.hid (Blk.new (putK (wr.alloc (.cells #[.string (bs nm),.string (bs pr),.string (bs sf),.bool br] 68)) (B+1) (us ++ [nm])) 9 #[.string (bs nm)])
       have HK6:=Lib.hid (kept_alloc (putK (wr.alloc (.cells #[.string (bs nm),.string (bs pr),.string (bs sf),.bool br] 68)) (B+1) (us ++ [nm])) (.cells #[.string (bs nm)] 9))
       have HG6:=Lib.hid (HG5.out.kept strK HK6.out)
       have HM6:=Lib.hid (MapK_kept HM5.out HK6.out)
       obtain ⟨ar,cr,rfl,hcr,hmr⟩:=HGR.out.form
       have hb6:w1.heap.size≤((putK (wr.alloc (.cells #[.string (bs nm),.string (bs pr),.string (bs sf),.bool br] 68)) (B+1) (us ++ [nm])).alloc (.cells #[.string (bs nm)] 9)).heap.size:=by
        have:=HKX.out.size; have:=HKI2.out.size; have:=HO5.out.size; have:=HK6.out.size; omega
       clear hct hnot HG5 HM5 HB0 HB5
       go_wp2_with (at_builtin; refine holdC ?_)
       refine Lib.hid ?_
       refine wpList_append_out strK rfl (.tmp 36) (.tmp 39) 29 rfl i0 _ 16 Tryz.underlying29 hi hz0 hz1 hz2 rfl (by omega) (by rfl) HG6.out _ [.string (bs nm)] nm (by rfl) (fun j u hu=>HROW.out.cell j u (by rw [← Array.getElem?_toList]; exact hu)) rfl rfl (by unfold maxLen; omega) (by omega) hb6 _ rfl ?_
       intro g7 c7' w7 hout7 hgrow7 hat7 hlt7
       have HGROW:=Lib.hid hgrow7
       have HAT:=Lib.hid hat7
       have HOUT7:=Lib.hid hout7
       clear hgrow7 hat7 hout7
       have hong:=Only.grown HGROW.out
       have HOUT8:Hid (OutG StrK 1 (fun _=>False) w1.heap.size 9 w7 (.slice (some ⟨g7,0,none⟩) (us.length+1) c7') (keysL (pre ++ (cits.take (j+1)).map (·.key)))):=by rw [HT3]; exact HOUT7.out
       have HM7:Hid (MapK w7 (B+1) (keysL (pre ++ (cits.take (j+1)).map (·.key)))):=by
        rw [HT3]
        exact HM6.out.only hong (fun q=>by have:=(HGR.out.blk (B+1) q.symm).1; have:=HM1.out.lt; omega)
       have HSTEP:Hid (Only (fun g=>g=B+1∨w1.heap.size≤g) wr w7):=(Only.of_kept HKI2.out).trans ((HO5.out.mono (fun g _ q=>.inl q)).trans ((Only.of_kept HK6.out).trans (hong.mono (fun g _ q=>.inr (HGR.out.blk g q.symm).1))))
       have HON7:=Lib.hid (HKX.out.trans HSTEP.out)
       have HON8:=Lib.hid (HKO.out.trans HSTEP.out)
       clear hong HGROW HAT HOUT7 HM6 HG6 HK6 HROW HKI2 HO5 HM4 HT2 HT3 HUS lk up HGR HKX HKO HMR c0 cz HSTEP
       go_wp2_with fail
       go_roundw
       case rel=>exact ⟨j+1,by omega,by go_num,HOUT8.out,HM7.out,HON7.out,HON8.out⟩
       case measure=>simp [intOf]; omega
     ·obtain rfl:j=cits.length:=by omega
      rw [List.take_length,← HT.out] at HGR HMR
      clear HT HKO HTT
      go_wp2_with fail
      go_roundw
      case rel=>exact ⟨k+1,by omega,by go_num,HGR.out,HMR.out,HKX.out⟩
      case measure=>simp [intOf]; omega
   ·have HCK:Hid (citKeys (.mk kind text dest title id cls prs args cits kids)=[]):=if_neg hk13
    have HT3:=HT.out
    rw [HCK.out,List.append_nil] at HT3
    rw [← HT3] at HM2 HG2
    clear HGR HMR HKR HT HT3 HCK HLK
    go_wp2_with fail
    go_roundw
    case rel=>exact ⟨k+1,by omega,by go_num,HG2.out,HM2.out,HON2.out⟩
    case measure=>simp [intOf]; omega
  ·obtain rfl:k=ds.length:=by omega
   rw [List.take_length] at HGR
   obtain ⟨ar,cr,rfl,hcr,hmr⟩:=HGR.out.form
   have HKZ:Hid (Kept w wr):=HK1.out.trans' (HKR.out.below (by have:=HK1.out.size; omega) (fun i h=>by have:=HB.out; have:=HK1.out.size; omega))
   have HF:=Lib.hid (HFIN.out _ wr (Strs.outO HGR.out) HKZ.out)
   clear HGR HMR HKR HR HM1
   go_wp2_with fail
   (try go_ret)
   exact HF.out
end Go.Proofs.YtmcoomlkbgiboaaGreatDoor

/- bib.Find and ref30.Find. Conditions: lengths. -/
set_option linter.all false
namespace Go.Proofs.YtmcoomlkbgiboaaGreatDoor
open Go.RowKit

def findS (ss:List SrcT) (k:Bs):Option SrcT:=ss.find? fun s=>s.key == k
theorem findS_at (ss:List SrcT) (k:Bs) (n:Nat) (s:SrcT) (hx:ss[n]? = some s) (hb:∀ x∈ss.take n,(x.key == k)=false) (hk:(s.key == k)=true):findS ss k=some s:=by
 obtain ⟨hk',rfl⟩:=List.getElem?_eq_some_iff.1 hx
 unfold findS
 have e:ss=ss.take n ++ ss[n] :: ss.drop (n+1):=by rw [← List.drop_eq_getElem_cons hk',List.take_append_drop]
 conv=>lhs; rw [e]
 rw [List.find?_append,List.find?_eq_none.2 (by intro x h; rw [hb x h]; simp),List.find?_cons_of_pos (by simpa using hk)]
 rfl
theorem findS_none (ss:List SrcT) (k:Bs) (hb:∀ x∈ss,(x.key == k)=false):findS ss k=none:=by
 unfold findS
 rw [List.find?_eq_none]
 intro x h; rw [hb x h]; simp
theorem kept5 {w wr:World} {v0 v1 v2 v3 v4:Value} (h:Kept w wr):Kept w (((((wr.setCell ⟨w.heap.size,0,none⟩ v0).setCell ⟨w.heap.size,1,none⟩ v1).setCell ⟨w.heap.size,2,none⟩ v2).setCell ⟨w.heap.size,3,none⟩ v3).setCell ⟨w.heap.size,4,none⟩ v4) :=
 kept_set (kept_set (kept_set (kept_set (kept_set h _ _ _ (Nat.le_refl _)) _ _ _ (Nat.le_refl _)) _ _ _ (Nat.le_refl _)) _ _ _ (Nat.le_refl _)) _ _ _ (Nat.le_refl _)
theorem only_set {S:Nat→Prop} (w:World) (g o:Nat) (v:Value) (h:S g):Only S w (w.setCell ⟨g,o,none⟩ v):=(Only.setCell g o v).mono (fun i _ e=>e ▸ h)
theorem only5 {S:Nat→Prop} {w:World} {B:Nat} {v0 v1 v2 v3 v4:Value} (h:S B):Only S w (((((w.setCell ⟨B,0,none⟩ v0).setCell ⟨B,1,none⟩ v1).setCell ⟨B,2,none⟩ v2).setCell ⟨B,3,none⟩ v3).setCell ⟨B,4,none⟩ v4) :=
 ((((only_set _ _ _ _ h).trans (only_set _ _ _ _ h)).trans (only_set _ _ _ _ h)).trans (only_set _ _ _ _ h)).trans (only_set _ _ _ _ h)
def FindPost (o:Option SrcT) (w:World) (e:Ending) (w':World):Prop :=
 ∃ vA vE vF,e=.returned (.tuple #[srcV (o.getD zeroS).key (o.getD zeroS).type vA vE vF,.bool o.isSome])∧Perss w' vA (o.getD zeroS).author∧Perss w' vE (o.getD zeroS).editor∧Prs w' vF (o.getD zeroS).fields∧Kept w w'
set_option maxRecDepth 100000 in
set_option maxHeartbeats 3200000 in
theorem find_any (v:Value) (ss:List SrcT) (k:Bs) (w:World) (hv:Srcs w v ss) (hl:ss.length≤1100000) (hL:∀ s∈ss,s.author.length≤1100000∧s.editor.length≤1100000∧s.fields.length≤1100000) :
  Calls Tryz.prog 71 #[v,.string (bs k)] w (FindPost (findS ss k) w):=by
 have HV:=Lib.hid hv
 have HA:=Lib.hid (findS_at ss k)
 have HNO:=Lib.hid (findS_none ss k)
 obtain ⟨o,HO⟩:∃ o,Hid (findS ss k=o):=⟨_,rfl⟩
 rw [HO.out] at HA HNO ⊢
 obtain ⟨a,c,rfl,hc,h3⟩:=hv
 clear h3
 unfold FindPost
 go_enter Tryz.func71,Tryz.ntmps71
 go_wp2_with fail
 go_loopw [10] (fun i wr=>∃ n:Nat,n≤ss.length∧i=.int .i64 n∧Hid (∀ x∈ss.take n,(x.key == k)=false)∧Hid (Blk wr w.heap.size 50 #[.string (bs []),.string (bs []),.slice none 0 0,.slice none 0 0,.slice none 0 0])∧Hid (Kept w wr)) (fun i _=>ss.length - (intOf i).toNat)
 case atStart=>exact ⟨0,Nat.zero_le _,rfl,fun x h=>by simp at h,Blk.new w _ _,kept_alloc _ _⟩
 case round =>
  obtain ⟨n,hn,rfl,HN,HB,HKR⟩:=hrel
  have b0:wr.cell? ⟨w.heap.size,0,none⟩=some (.string (bs [])):=HB.out.cell 0 _ rfl
  have b1:wr.cell? ⟨w.heap.size,1,none⟩=some (.string (bs [])):=HB.out.cell 1 _ rfl
  have b2:wr.cell? ⟨w.heap.size,2,none⟩=some (.slice none 0 0):=HB.out.cell 2 _ rfl
  have b3:wr.cell? ⟨w.heap.size,3,none⟩=some (.slice none 0 0):=HB.out.cell 3 _ rfl
  have b4:wr.cell? ⟨w.heap.size,4,none⟩=some (.slice none 0 0):=HB.out.cell 4 _ rfl
  have f0:=HB.out.free 0
  have f1:=HB.out.free 1
  have f2:=HB.out.free 2
  have f3:=HB.out.free 3
  have f4:=HB.out.free 4
  have z0:=HB.out.lt
  by_cases hlt:n<ss.length
  ·obtain ⟨s,hx⟩:∃ x,ss[n]? = some x:=⟨_,List.getElem?_eq_getElem hlt⟩
   obtain ⟨a',c',hv',hc',h3⟩:=HV.out
   obtain ⟨rfl,hdead,rfl⟩:=Value.slice.inj hv'
   clear hdead hc'
   obtain ⟨g,o2,rfl,hg',hcc⟩:=h3 (by omega)
   obtain ⟨vA,vE,vF,t0,t1,t2,t3,t4,pA,pE,pF⟩:=hcc n s hx
   have d0:=(HKR.out.cell (p:=⟨g,_,none⟩) hg').trans t0
   have d1:=(HKR.out.cell (p:=⟨g,_,none⟩) hg').trans t1
   have d2:=(HKR.out.cell (p:=⟨g,_,none⟩) hg').trans t2
   have d3:=(HKR.out.cell (p:=⟨g,_,none⟩) hg').trans t3
   have d4:=(HKR.out.cell (p:=⟨g,_,none⟩) hg').trans t4
   clear t0 t1 t2 t3 t4
   have hg2:g<wr.heap.size:=Nat.lt_of_lt_of_le hg' HKR.out.size
   have HL:=Lib.hid (hL s (List.mem_of_getElem? hx))
   have HPS:=Lib.hid (And.intro pA (And.intro pE pF))
   have HAT:=Lib.hid (HA.out n s hx HN.out)
   obtain ⟨aA,cA,rfl,zA,zA'⟩:=pA
   obtain ⟨aE,cE,rfl,zE,zE'⟩:=pE
   obtain ⟨aF,cF,rfl,zF,zF'⟩:=pF
   clear zA zA' zE zE' zF zF'
   cases hxk:(s.key == k)
   ·have HS:Hid (∀ x∈ss.take (n+1),(x.key == k)=false):=by
     intro x hxm
     obtain ⟨hk',rfl⟩:=List.getElem?_eq_some_iff.1 hx
     rw [List.take_succ_eq_append_getElem hk'] at hxm
     rcases List.mem_append.1 hxm with h | h
     ·exact HN.out x h
     ·simp at h; subst h; exact hxk
    clear hcc h3 hv' hx HN HAT b0 b1 b2 b3 b4 f0 f1 f2 f3 f4 z0
    go_wp2_with fail
    go_roundw
    case rel=>exact ⟨n+1,by omega,by go_num,HS.out,HB.out.kept (kept_alloc _ _),HKR.out.trans (kept_alloc _ _)⟩
    case measure=>simp [intOf]; omega
   ·have HO2:=Lib.hid (HAT.out hxk)
    clear hcc h3 hv' hx HN HAT
    obtain rfl:s.key=k:=by simpa using hxk
    clear hxk
    have HCA:=Lib.hid (fun w h=>cloneP_any (.slice aA s.author.length cA) s.author w h HL.out.1)
    have HCE:=Lib.hid (fun w h=>cloneP_any (.slice aE s.editor.length cE) s.editor w h HL.out.2.1)
    have HCF:=Lib.hid (fun w h=>cloneF_any (.slice aF s.fields.length cF) s.fields w h HL.out.2.2)
    have HBK:=Lib.hid (Blk.new wr 50 #[.string (bs s.key),.string (bs s.type),.slice aA s.author.length cA,.slice aE s.editor.length cE,.slice aF s.fields.length cF])
    have HK0:=Lib.hid (HKR.out.trans (kept_alloc wr (.cells #[.string (bs s.key),.string (bs s.type),.slice aA s.author.length cA,.slice aE s.editor.length cE,.slice aF s.fields.length cF] 50)))
    have hwr:w.heap.size≤wr.heap.size:=HKR.out.size
    go_wp2_with fail
    refine (HCA.out _ (HPS.out.1.kept HK0.out)).mono ?_
    rintro e w1 ⟨v1,rfl,hp1,hf1,hk1⟩
    have HP1:=Lib.hid hp1
    have HF1:Hid (Fresh (wr.heap.size+1) v1):=by show Fresh _ _; simpa using hf1
    have HB1:=Lib.hid (HBK.out.kept hk1)
    have HR1:=Lib.hid ((HB.out.kept (kept_alloc wr _)).kept hk1)
    have HK1:=Lib.hid (HK0.out.trans hk1)
    have HKA:=Lib.hid (kept_set HK1.out wr.heap.size 2 v1 hwr)
    obtain ⟨a1,c1,rfl,y1,y2⟩:=hp1
    clear hk1 hf1 y1 y2 b0 b1 b2 b3 b4 f0 f1 f2 f3 f4 z0 d0 d1 d2 d3 d4 hg2 hg'
    have e2:w1.cell? ⟨wr.heap.size,2,none⟩=some (.slice aA s.author.length cA):=HB1.out.cell 2 _ rfl
    have e3:w1.cell? ⟨wr.heap.size,3,none⟩=some (.slice aE s.editor.length cE):=HB1.out.cell 3 _ rfl
    have f2:=HB1.out.free 2
    have z1:=HB1.out.lt
    go_wp2_with fail
    refine (HCE.out _ (HPS.out.2.1.kept HKA.out)).mono ?_
    rintro e w2 ⟨v2,rfl,hp2,hf2,hk2⟩
    have HP2:=Lib.hid hp2
    have HF2:Hid (Fresh (wr.heap.size+1) v2):=by
     show Fresh _ _
     intro g' o' n' c' he hn
     have:=hf2 g' o' n' c' he hn
     rw [size_setCell] at this; omega
    have HB2:Hid (Blk w2 wr.heap.size 50 #[.string (bs s.key),.string (bs s.type),.slice a1 s.author.length c1,.slice aE s.editor.length cE,.slice aF s.fields.length cF]):=(HB1.out.set 2 _).kept hk2
    have HR2:=Lib.hid ((HR1.out.other wr.heap.size 2 (.slice a1 s.author.length c1) (by have:=HB.out.lt; omega)).kept hk2)
    have HO2A:=Lib.hid ((only_set (S:=fun i=>i≤wr.heap.size) w1 wr.heap.size 2 (.slice a1 s.author.length c1) (Nat.le_refl _)).trans (Only.of_kept hk2))
    have HK2:=Lib.hid (HKA.out.trans hk2)
    have HKB:=Lib.hid (kept_set HK2.out wr.heap.size 3 v2 hwr)
    obtain ⟨a2,c2,rfl,y1,y2⟩:=hp2
    clear hk2 hf2 y1 y2 e2 e3 f2 z1
    have e3:w2.cell? ⟨wr.heap.size,3,none⟩=some (.slice aE s.editor.length cE):=HB2.out.cell 3 _ rfl
    have e4:w2.cell? ⟨wr.heap.size,4,none⟩=some (.slice aF s.fields.length cF):=HB2.out.cell 4 _ rfl
    have f3:=HB2.out.free 3
    have z2:=HB2.out.lt
    go_wp2_with fail
    refine (HCF.out _ (HPS.out.2.2.kept HKB.out)).mono ?_
    rintro e w3 ⟨v3,rfl,hp3,hf3,hk3⟩
    have HP3:=Lib.hid hp3
    have HF3:Hid (Fresh (wr.heap.size+1) v3):=by
     show Fresh _ _
     intro g' o' n' c' he hn
     have:=hf3 g' o' n' c' he hn
     rw [size_setCell] at this; omega
    have HB3:Hid (Blk w3 wr.heap.size 50 #[.string (bs s.key),.string (bs s.type),.slice a1 s.author.length c1,.slice a2 s.editor.length c2,.slice aF s.fields.length cF]):=(HB2.out.set 3 _).kept hk3
    have HR3:=Lib.hid ((HR2.out.other wr.heap.size 3 (.slice a2 s.editor.length c2) (by have:=HB.out.lt; omega)).kept hk3)
    have HO3A:=Lib.hid ((only_set (S:=fun i=>i≤wr.heap.size) w2 wr.heap.size 3 (.slice a2 s.editor.length c2) (Nat.le_refl _)).trans (Only.of_kept hk3))
    have HK3:=Lib.hid (HKB.out.trans hk3)
    have HKC:=Lib.hid (kept_set HK3.out wr.heap.size 4 v3 hwr)
    obtain ⟨a3,c3,rfl,y1,y2⟩:=hp3
    clear hk3 hf3 y1 y2 e3 e4 f3 z2
    have e0:w3.cell? ⟨wr.heap.size,0,none⟩=some (.string (bs s.key)):=HB3.out.cell 0 _ rfl
    have e1:w3.cell? ⟨wr.heap.size,1,none⟩=some (.string (bs s.type)):=HB3.out.cell 1 _ rfl
    have e2:w3.cell? ⟨wr.heap.size,2,none⟩=some (.slice a1 s.author.length c1):=HB3.out.cell 2 _ rfl
    have e3:w3.cell? ⟨wr.heap.size,3,none⟩=some (.slice a2 s.editor.length c2):=HB3.out.cell 3 _ rfl
    have e4:w3.cell? ⟨wr.heap.size,4,none⟩=some (.slice aF s.fields.length cF):=HB3.out.cell 4 _ rfl
    have f4:=HB3.out.free 4
    have z3:=HB3.out.lt
    have b0:w3.cell? ⟨w.heap.size,0,none⟩=some (.string (bs [])):=HR3.out.cell 0 _ rfl
    have b1:w3.cell? ⟨w.heap.size,1,none⟩=some (.string (bs [])):=HR3.out.cell 1 _ rfl
    have b2:w3.cell? ⟨w.heap.size,2,none⟩=some (.slice none 0 0):=HR3.out.cell 2 _ rfl
    have b3:w3.cell? ⟨w.heap.size,3,none⟩=some (.slice none 0 0):=HR3.out.cell 3 _ rfl
    have b4:w3.cell? ⟨w.heap.size,4,none⟩=some (.slice none 0 0):=HR3.out.cell 4 _ rfl
    have h0:=HR3.out.free 0
    have h1:=HR3.out.free 1
    have h2:=HR3.out.free 2
    have h3:=HR3.out.free 3
    have h4:=HR3.out.free 4
    have z4:=HR3.out.lt
    have hne:w.heap.size≠wr.heap.size:=by have:=HB.out.lt; omega
    go_wp2_with fail
    have HO4A:=Lib.hid ((only_set (S:=fun i=>i≤wr.heap.size) w3 wr.heap.size 4 (.slice a3 s.fields.length c3) (Nat.le_refl _)).trans (only5 (B:=w.heap.size) (v0:=.string (bs s.key)) (v1:=.string (bs s.type)) (v2:=.slice a1 s.author.length c1) (v3:=.slice a2 s.editor.length c2) (v4:=.slice a3 s.fields.length c3) hwr))
    have hK:=kept5 HKC.out (v0:=.string (bs s.key)) (v1:=.string (bs s.type)) (v2:=.slice a1 s.author.length c1) (v3:=.slice a2 s.editor.length c2) (v4:=.slice a3 s.fields.length c3)
    refine bodyPost_ret (v:=.tuple #[srcV s.key s.type (.slice a1 s.author.length c1) (.slice a2 s.editor.length c2) (.slice a3 s.fields.length c3),.bool true]) (by simp [results,Tryz.results71,go_sem,b0,b1,b2,b3,b4,z4,hne]) rfl ?_
    refine ⟨.slice a1 s.author.length c1,.slice a2 s.editor.length c2,.slice a3 s.fields.length c3,by rw [HO2.out]; rfl,?_,?_,?_,hK⟩
    ·rw [HO2.out]; exact HP1.out.away HF1.out ((HO2A.out.trans HO3A.out).trans HO4A.out) (fun i h=>by omega)
    ·rw [HO2.out]; exact HP2.out.away HF2.out (HO3A.out.trans HO4A.out) (fun i h=>by omega)
    ·rw [HO2.out]; exact HP3.out.away HF3.out HO4A.out (fun i h=>by omega)
  ·have HE:=Lib.hid (HNO.out (by have h:=HN.out; rw [List.take_of_length_le (by omega)] at h; exact h))
   go_wp2_with fail
   have hK:=kept5 HKR.out (v0:=.string (bs [])) (v1:=.string (bs [])) (v2:=.slice none 0 0) (v3:=.slice none 0 0) (v4:=.slice none 0 0)
   refine bodyPost_ret (v:=.tuple #[srcV [] [] (.slice none 0 0) (.slice none 0 0) (.slice none 0 0),.bool false]) (by simp [results,Tryz.results71,go_sem,b0,b1,b2,b3,b4,z0]) rfl ?_
   refine ⟨.slice none 0 0,.slice none 0 0,.slice none 0 0,by rw [HE.out]; rfl,?_,?_,?_,hK⟩
   ·rw [HE.out]; exact Perss.none_ _
   ·rw [HE.out]; exact Perss.none_ _
   ·rw [HE.out]; exact Prs.none_ _
end Go.Proofs.YtmcoomlkbgiboaaGreatDoor

/- cite.Fill at a document of one citation, in a numeric style. Conditions: lengths, the listed variables. -/
set_option linter.all false
namespace Go.Proofs.YtmcoomlkbgiboaaGreatDoor
open Go.RowKit

theorem Srcs.row {S S':Nat→Prop} {w:World} {v:Value} {xs:List SrcT} (h:RowR S 5 (SrcK S' w) w v xs):Srcs w v xs:=by
 obtain ⟨a,c,hv,hc,h3⟩:=h
 refine ⟨a,c,hv,hc,fun q=>?_⟩
 obtain ⟨g,o,ha,hg,-,hcell⟩:=h3 q
 refine ⟨g,o,ha,hg,fun j s hs=>?_⟩
 obtain ⟨cs,hl,hcs,vA,vE,vF,rfl,⟨pA,-⟩,⟨pE,-⟩,pF,-⟩:=hcell j s hs
 exact ⟨vA,vE,vF,(by have:=hcs 0 _ rfl; rwa [Nat.add_zero] at this),hcs 1 _ rfl,hcs 2 _ rfl,hcs 3 _ rfl,hcs 4 _ rfl,pA,pE,pF⟩
theorem FitL.small {s:SrcT} (h:FitL s):SmallS s:=by
 obtain ⟨h1,h2,h3,h4,h5,h6⟩:=h
 refine ⟨?_,?_,?_,by omega,by omega,by omega,by omega,by omega⟩
 ·intro q hq; have:=h6 q (List.mem_append_left _ hq); omega
 ·intro q hq; have:=h6 q (List.mem_append_right _ hq); omega
 ·intro p hp; have:=h5 p hp; omega
def AnyK (_:Nat→Prop) (_:World) (cs:List Value) (_:Unit):Prop:=∀ u∈cs,u.oneCell'=true
theorem anyK:ReadK AnyK:=⟨fun h _ _=>h,fun h u hu=>h u hu⟩
theorem Tryz.infoEnt:(Tryz.prog.info? 138).map (fun i=>(i.zero,i.size,i.bytes))=some (some (.agg #[.string ⟨#[]⟩,.string ⟨#[]⟩,.slice none 0 0,.slice none 0 0,.slice none 0 0,.string ⟨#[]⟩,.int .i64 0]),7,128):=by kernel_rfl
def FiOne (tx:Bs) (w:World) (e:Ending) (w':World):Prop:=∃ aM nM cM vB b,e=.returned (.tuple #[.agg #[.slice aM nM cM,vB],.int .i64 0])∧Bls (fun g=>w.heap.size≤g) 2 1 w' vB [b]∧LnOk b.line tx∧Kept w w'
set_option maxRecDepth 100000 in
set_option maxHeartbeats 25600000 in
theorem cifi_one (N:Nat) (vM vB vL vE:Value) (ms:List Pr) (l:List SrcT) (s:SrcT) (y:StyT) (lang key r info text dest title id itext idest ititle iid:Bs) (level:Int) (cls icls iargs:List Bs) (prs iprs:List Pr) (ikids:List Inl) (w:World) (hen:EnvC w) (hM:Prs w vM ms) (hms:ms.length≤1000)
  (hB:Bls (fun g=>g<w.heap.size) (N+1) 1 w vB [.mk 1 level info text dest title id cls prs [.mk 13 itext idest ititle iid icls iprs iargs [⟨key,[],44 :: r,false⟩] ikids] []])
  (hok:okBL [.mk 1 level info text dest title id cls prs [.mk 13 itext idest ititle iid icls iprs iargs [⟨key,[],44 :: r,false⟩] ikids] []]) (hkey:keysD [.mk 1 level info text dest title id cls prs [.mk 13 itext idest ititle iid icls iprs iargs [⟨key,[],44 :: r,false⟩] ikids] []]=[key])
  (hi1:(inlsL [.mk 1 level info text dest title id cls prs [.mk 13 itext idest ititle iid icls iprs iargs [⟨key,[],44 :: r,false⟩] ikids] []]).length≤1000000) (hi2:∀ x∈inlsL [.mk 1 level info text dest title id cls prs [.mk 13 itext idest ititle iid icls iprs iargs [⟨key,[],44 :: r,false⟩] ikids] []],x.cits.length≤1000000) (hi3:((inlsL [.mk 1 level info text dest title id cls prs [.mk 13 itext idest ititle iid icls iprs iargs [⟨key,[],44 :: r,false⟩] ikids] []]).flatMap citKeys).length≤1000000)
  (hv:Srcs w vL l) (hl:l.length≤100) (hfit:∀ s∈l,FitL s) (hck:checkE l=0) (hfs:findS l key=some s) (hE:Prs w vE y.entries) (hy:SmallY y) (hym : -9223372036854775808≤y.most∧y.most≤9223372036854775807) (hst:styE y=0) (hnu:y.numeric=true)
  (hr:r.length≤1000) (hfl:(fillS (filT s y lang [] 1) y.cite).length≤100000000) (htx:(txB (ctB y lang s 1 (44 :: r))).length≤1000000) (hc1:cls.length≤1000000) (hp1:prs.length≤1000000) :
  Calls Tryz.prog 25 #[.agg #[vM,vB],vL,styV vE y,.string (bs lang)] w (FiOne (ctB y lang s 1 (44 :: r)) w):=by
 obtain ⟨i5,hi5,hz50,hz51,hz52⟩:=info_parts Tryz.infoSo5
 have hft:FitL s:=hfit s (List.mem_of_find?_eq_some hfs)
 have hsk:Hid (s.key=key):=by have:=List.find?_some hfs; exact (show s.key=key by simpa using this)
 generalize hpar:Blo.mk 1 level info text dest title id cls prs [.mk 13 itext idest ititle iid icls iprs iargs [⟨key,[],44 :: r,false⟩] ikids] []=para at *
 obtain ⟨aM,cM,rfl,lM⟩:=(show ∃ a c,vM=.slice a ms.length c∧ms.length≤c by obtain ⟨a,c,e,q,_⟩:=hM; exact ⟨a,c,e,q⟩)
 obtain ⟨aB,cB,rfl,lB⟩:=hB.form
 obtain ⟨aL,cL,rfl,lL⟩:=(show ∃ a c,vL=.slice a l.length c∧l.length≤c by obtain ⟨a,c,e,q,_⟩:=hv; exact ⟨a,c,e,q⟩)
 obtain ⟨aE,cE,rfl,lE⟩:=(show ∃ a c,vE=.slice a y.entries.length c∧y.entries.length≤c by obtain ⟨a,c,e,q,_⟩:=hE; exact ⟨a,c,e,q⟩)
 have hrow:([para]:List Blo).length=1:=rfl
 rw [hrow] at hB lB ⊢
 have HCH:=Lib.hid (fun w' (k:Kept w w')=>scheck_any (.slice aE y.entries.length cE) y w' (hen.gnd.kept k) hy (hE.kept k))
 rw [hst] at HCH
 have HCB:=Lib.hid (fun w' (k:Kept w w')=>check_any (.slice aL l.length cL) l w' (hen.gnd.kept k) (hv.kept k) (fun s hs=>(hfit s hs).small) (by omega))
 rw [hck] at HCB
 have HKE:=Lib.hid (fun w' (k:Kept w w')=>cikeys_any (N+1) 1 aM ms.length cM (.slice aB 1 cB) [para] w' ((hB.kept k).mono (fun g _ q=>Nat.lt_of_lt_of_le q k.size)) (by simp) hok hi1 hi2 hi3)
 rw [hkey] at HKE
 unfold CiKP at HKE
 have HFD:=Lib.hid (fun w' (k:Kept w w')=>find_any (.slice aL l.length cL) l key w' (hv.kept k) (by omega) (fun s hs=>by have:=hfit s hs; exact ⟨by have:=this.1; omega,by have:=this.2.1; omega,by have:=this.2.2.1; omega⟩))
 rw [hfs] at HFD
 unfold FindPost at HFD
 simp only [Option.getD_some,Option.isSome_some] at HFD
 have HOR:=Lib.hid (fun w' (k:Kept w w') v (h:Srcs w' v [s])=>ciord_any v (.slice aE y.entries.length cE) [s] y lang w' (hen.kept k) h (by simp) (fun t ht=>by rw [List.mem_singleton.1 ht]; exact hft) (hE.kept k) hy)
 have hor:ordR y lang [s]=(0,[s]):=by unfold ordR; rw [if_pos hst]; rfl
 rw [hor] at HOR
 unfold OrdP at HOR
 have HSU:=Lib.hid (fun w' (k:Kept w w') v (h:Srcs w' v [s])=>cisuf_any v (.slice aE y.entries.length cE) [s] y lang w' (hen.kept k) h (by simp) (fun t ht=>by rw [List.mem_singleton.1 ht]; exact hft) (hE.kept k) hy hym)
 have hsu:sufR y lang [s]=(0,[[]]):=by unfold sufR; rw [if_pos hst,if_pos hnu]; rfl
 rw [hsu] at HSU
 unfold SufPo at HSU
 have HCL:=Lib.hid (fun w' (k:Kept w w')=>clnF (.slice aM ms.length cM) ms w' (hM.kept k) (by omega))
 unfold ClnF at HCL
 have HBK:=Lib.hid (fun (F M:Nat) (es:List (Bs × Value)) (vEn vA' vE' vF':Value) (w':World) (k:Kept w w') (hf:Blk w' F 136 (flC (.slice aE y.entries.length cE) y lang vEn M)) (hm:MapT w' M es) (hg:getT es key=some (enV s [] 1 vA' vE' vF')) (hA:Perss w' vA' s.author) (hE':Perss w' vE' s.editor) (hF:Prs w' vF' s.fields) =>
  ciblks_one (S:=fun g=>g<w.heap.size) F M N es (.slice aE y.entries.length cE) vEn vA' vE' vF' (.slice aB 1 cB) s y lang key r info text dest title id itext idest ititle iid level cls icls iargs prs iprs ikids 1 w' (hen.kept k) hf hm hg rfl hy hym (by omega) hA hE' hF hft hr hfl htx hc1 hp1 (by rw [hpar]; exact hB.kept k))
 unfold BkP at HBK
 have HFIN:Hid (∀ aM' nM' cM' vB' b w',Bls (fun g=>w.heap.size≤g) 2 1 w' vB' [b]→LnOk b.line (ctB y lang s 1 (44 :: r))→Kept w w'→FiOne (ctB y lang s 1 (44 :: r)) w (.returned (.tuple #[.agg #[.slice aM' nM' cM',vB'],.int .i64 0])) w'):=fun aM' nM' cM' vB' b w' h1 h2 k=>⟨aM',nM',cM',vB',b,rfl,h1,h2,k⟩
 generalize FiOne (ctB y lang s 1 (44 :: r)) w=P at *
 obtain ⟨tx,HTX⟩:∃ tx,Hid (ctB y lang s 1 (44 :: r)=tx):=⟨_,rfl⟩
 rw [HTX.out] at HBK HFIN htx
 clear hM hB hok hkey hi1 hi2 hi3 hv hfit hck hfs hE hst hnu hfl htx hrow hpar hor hsu hen HTX
 have e1:(w.alloc (.cells #[.slice aM ms.length cM,.slice aB 1 cB] 25)).heap.size=w.heap.size+1:=by simp
 have HD0:=Lib.hid (((Blk.new w 25 #[.slice aM ms.length cM,.slice aB 1 cB]).alloc (.cells (styCells (.slice aE y.entries.length cE) y) 33)).alloc (.cells #[.slice none 0 0,.slice none 0 0] 25))
 have hY0:=(Blk.new (w.alloc (.cells #[.slice aM ms.length cM,.slice aB 1 cB] 25)) 33 (styCells (.slice aE y.entries.length cE) y)).alloc (.cells #[.slice none 0 0,.slice none 0 0] 25)
 have hR0:=Blk.new ((w.alloc (.cells #[.slice aM ms.length cM,.slice aB 1 cB] 25)).alloc (.cells (styCells (.slice aE y.entries.length cE) y) 33)) 25 #[.slice none 0 0,.slice none 0 0]
 simp only [World.size_alloc] at hY0 hR0
 have HK0:=Lib.hid (((kept_alloc w (.cells #[.slice aM ms.length cM,.slice aB 1 cB] 25)).trans (kept_alloc _ (.cells (styCells (.slice aE y.entries.length cE) y) 33))).trans (kept_alloc _ (.cells #[.slice none 0 0,.slice none 0 0] 25)))
 obtain ⟨D,HDE⟩:∃ D,Hid (w.heap.size=D):=⟨_,rfl⟩
 rw [HDE.out] at HD0 hY0 hR0
 have hwD:w.heap.size≤D:=by rw [HDE.out]; exact Nat.le_refl _
 have HY0:=Lib.hid hY0
 have HR0:=Lib.hid hR0
 have HB10:=Lib.hid (sty_cells hY0)
 clear hY0 hR0 e1
 unfold styV styCells at HCH HOR HSU
 unfold styCells at HK0 HD0 HY0 HR0 HB10
 unfold styV styCells
 go_enter Tryz.func25,Tryz.ntmps25
 go_upto_region 1 with fail
 rw [HDE.out]
 generalize World.alloc (World.alloc (World.alloc w _) _) _=w0 at *
 obtain ⟨⟨b0,b1,b2,b3,b4,b5,b6,b7,b8,b9⟩,bz⟩:=HB10.out
 go_wp2_with fail
 refine (HCH.out w0 HK0.out).mono ?_
 rintro e w1 ⟨rfl,hk1⟩
 have HK1:=Lib.hid (HK0.out.trans hk1)
 have HD1:=Lib.hid (HD0.out.kept hk1)
 have HY1:=Lib.hid (HY0.out.kept hk1)
 have HR1:=Lib.hid (HR0.out.kept hk1)
 clear hk1 HK0 HD0 HY0 HR0 HB10 HCH b0 b1 b2 b3 b4 b5 b6 b7 b8 b9 bz
 go_wp2_with fail
 refine (HCB.out w1 HK1.out).mono ?_
 rintro e w2 ⟨rfl,hk2⟩
 have HK2:=Lib.hid (HK1.out.trans hk2)
 have HD2:=Lib.hid (HD1.out.kept hk2)
 have HY2:=Lib.hid (HY1.out.kept hk2)
 have HR2:=Lib.hid (HR1.out.kept hk2)
 clear hk2 HK1 HD1 HY1 HR1 HCB
 have x0:=HD2.out.cell 0 _ rfl
 have x1:=HD2.out.cell 1 _ rfl
 have xz:=HD2.out.lt
 go_wp2_with fail
 refine (HKE.out w2 HK2.out).mono ?_
 rintro e w3 ⟨v3,rfl,hs3,hk3⟩
 have HS3:=Lib.hid hs3
 obtain ⟨a3,c3,rfl,l3⟩:=hs3.shape
 have HK3:=Lib.hid (HK2.out.trans hk3)
 have HD3:=Lib.hid (HD2.out.kept hk3)
 have HY3:=Lib.hid (HY2.out.kept hk3)
 have HR3:=Lib.hid (HR2.out.kept hk3)
 have hrow1:([key]:List Bs).length=1:=rfl
 rw [hrow1] at HS3 l3 ⊢
 clear hk3 hs3 HK2 HD2 HY2 HR2 HKE x0 x1 xz hrow1
 go_wp2_with fail
 go_loopw [12,39] (fun v i wr=>∃ (k:Nat),k≤1∧i=.int .i64 k∧Hid (k=0→v=.slice none 0 0)∧Hid (OutG SrcK 5 (fun _=>True) w3.heap.size 50 wr v ([s].take k))∧Hid (Kept w3 wr)) (fun _ i _=>1 - (intOf i).toNat)
 case atStart=>exact ⟨0,Nat.zero_le _,rfl,(fun _=>rfl),OutG.nil _ _ _ _ _ _,Kept.refl _⟩
 case round =>
  obtain ⟨k,hk,rfl,HV0,HGR,HKR⟩:=hrel
  by_cases hlt:k<1
  ·obtain rfl:k=0:=by omega
   obtain rfl:=HV0.out rfl
   have HG0:Hid (OutG SrcK 5 (fun _=>True) w3.heap.size 50 wr (.slice none 0 0) []):=HGR.out
   obtain ⟨g,o,rfl,hgg,d0,-,-⟩:=(HS3.out.kept HKR.out).cell_of 0 _ rfl
   rw [Nat.add_zero] at d0
   have HFX:=Lib.hid (HFD.out wr (HK3.out.trans HKR.out))
   clear HGR HFD
   go_wp2_with fail
   refine HFX.out.mono ?_
   rintro e w4 ⟨uA,uS,uF,rfl,pA,pE,pF,hk4⟩
   obtain ⟨bA,eA,rfl,-⟩:=pA.shape
   obtain ⟨bS,eS,rfl,-⟩:=pE.shape
   obtain ⟨bF,eF,rfl,-⟩:=(show ∃ a c,uF=.slice a s.fields.length c∧s.fields.length≤c by obtain ⟨a,c,e,l,_⟩:=pF; exact ⟨a,c,e,l⟩)
   have hk5:=kept_alloc w4 (.cells #[.string (bs s.key),.string (bs s.type),.slice bA s.author.length eA,.slice bS s.editor.length eS,.slice bF s.fields.length eF] 50)
   have hk6:=kept_alloc (w4.alloc (.cells #[.string (bs s.key),.string (bs s.type),.slice bA s.author.length eA,.slice bS s.editor.length eS,.slice bF s.fields.length eF] 50)) (.cells #[.string (bs s.key),.string (bs s.type),.slice bA s.author.length eA,.slice bS s.editor.length eS,.slice bF s.fields.length eF] 50)
   have HROW:=Lib.hid (Blk.new (w4.alloc (.cells #[.string (bs s.key),.string (bs s.type),.slice bA s.author.length eA,.slice bS s.editor.length eS,.slice bF s.fields.length eF] 50)) 50 #[.string (bs s.key),.string (bs s.type),.slice bA s.author.length eA,.slice bS s.editor.length eS,.slice bF s.fields.length eF])
   have HKA:=Lib.hid ((HKR.out.trans hk4).trans (hk5.trans hk6))
   have HGA:=Lib.hid (HG0.out.kept srcK (hk4.trans (hk5.trans hk6)))
   have HYY:Hid (SrcK (fun g=>True∧(Value.slice none 0 0).ownBlock≠some g) ((w4.alloc (.cells #[.string (bs s.key),.string (bs s.type),.slice bA s.author.length eA,.slice bS s.editor.length eS,.slice bF s.fields.length eF] 50)).alloc (.cells #[.string (bs s.key),.string (bs s.type),.slice bA s.author.length eA,.slice bS s.editor.length eS,.slice bF s.fields.length eF] 50)) [.string (bs s.key),.string (bs s.type),.slice bA s.author.length eA,.slice bS s.editor.length eS,.slice bF s.fields.length eF] s) :=
    ⟨_,_,_,rfl,⟨⟨pA.kept (hk5.trans hk6),fun _ _ _=>⟨trivial,fun h=>by cases h⟩⟩,⟨pE.kept (hk5.trans hk6),fun _ _ _=>⟨trivial,fun h=>by cases h⟩⟩,pF.kept (hk5.trans hk6),fun _ _ _=>⟨trivial,fun h=>by cases h⟩⟩⟩
   have hbz:w3.heap.size≤((w4.alloc (.cells #[.string (bs s.key),.string (bs s.type),.slice bA s.author.length eA,.slice bS s.editor.length eS,.slice bF s.fields.length eF] 50)).alloc (.cells #[.string (bs s.key),.string (bs s.type),.slice bA s.author.length eA,.slice bS s.editor.length eS,.slice bF s.fields.length eF] 50)).heap.size:=HKA.out.size
   rw [World.size_alloc] at HROW
   clear hk4 hk5 hk6 pA pE pF HG0 HKR HFX d0 hgg HV0
   go_wp2_with (at_builtin; refine holdC ?_)
   refine Lib.hid ?_
   refine wpList_append_out srcK rfl (.tmp 52) (.tmp 54) 31 rfl i5 _ 104 Tryz.underlying31 hi5 hz50 hz51 hz52 rfl (by omega) (by rfl) HGA.out (w4.heap.size+1) _ _ (by rfl) (fun j u hu=>HROW.out.cell j u (by rw [← Array.getElem?_toList]; exact hu)) rfl HYY.out (by simp; unfold maxLen; omega) (by simp) hbz _ rfl ?_
   intro g7 c7' w7 hout7 hgrow7 hat7 hlt7
   have HOUT8:Hid (OutG SrcK 5 (fun _=>True) w3.heap.size 50 w7 (.slice (some ⟨g7,0,none⟩) (([]:List SrcT).length+1) c7') ([s].take (0+1))):=hout7
   have HK7:Hid (Kept w3 w7):=HKA.out.trans' ((Only.grown hgrow7).below HKA.out.size (fun i q=>(HGA.out.blk i q.symm).1))
   clear hout7 hgrow7 hat7 hlt7 HROW HGA HKA hbz HYY
   go_wp2_with fail
   go_roundw
   case rel=>exact ⟨0+1,by omega,by go_num,(fun h=>absurd h (by omega)),HOUT8.out,HK7.out⟩
   case measure=>simp [intOf]
  ·obtain rfl:k=1:=by omega
   have HG0:Hid (OutG SrcK 5 (fun _=>True) w3.heap.size 50 wr _ [s]):=HGR.out
   have HSR:=Lib.hid (Srcs.row (HG0.out.row (S:=fun _=>True) srcK (fun _ _ q=>q) (fun _ _=>trivial)))
   obtain ⟨ar,cr,rfl,hcr,hmr⟩:=HG0.out.form
   have HK4:=Lib.hid (HK3.out.trans HKR.out)
   have HD4:=Lib.hid (HD3.out.kept HKR.out)
   have HY4:=Lib.hid (HY3.out.kept HKR.out)
   have HR4:=Lib.hid (HR3.out.kept HKR.out)
   have HOX:=Lib.hid (HOR.out wr HK4.out _ HSR.out)
   have HB10:=Lib.hid (sty_cells (vE:=.slice aE y.entries.length cE) (y:=y) HY4.out)
   obtain ⟨⟨b0,b1,b2,b3,b4,b5,b6,b7,b8,b9⟩,bz⟩:=HB10.out
   clear HGR HG0 HSR HKR HV0 HOR HFD HK3 HD3 HY3 HR3 HB10
   go_wp2_with fail
   refine HOX.out.mono ?_
   rintro e w5 ⟨v5,rfl,ho5,hk5⟩
   have HO5:=Lib.hid ho5
   obtain ⟨a5,c5,rfl,hc5,hm5⟩:=ho5.form
   have HK5:=Lib.hid (HK4.out.trans hk5)
   have HD5:=Lib.hid (HD4.out.kept hk5)
   have HY5:=Lib.hid (HY4.out.kept hk5)
   have HR5:=Lib.hid (HR4.out.kept hk5)
   have HSR:=Lib.hid (Srcs.row (ho5.row (S:=fun _=>True) srcK (fun _ _ _=>trivial) (fun _ _=>trivial)))
   have HSX:=Lib.hid (HSU.out w5 HK5.out _ HSR.out)
   have HB10:=Lib.hid (sty_cells (vE:=.slice aE y.entries.length cE) (y:=y) HY5.out)
   clear hk5 ho5 HK4 HD4 HY4 HR4 HOX HSR HSU b0 b1 b2 b3 b4 b5 b6 b7 b8 b9 bz
   obtain ⟨⟨b0,b1,b2,b3,b4,b5,b6,b7,b8,b9⟩,bz⟩:=HB10.out
   clear HB10
   go_wp2_with fail
   refine HSX.out.mono ?_
   rintro e w6 ⟨v6,rfl,hs6,hk6⟩
   have HS6:=Lib.hid hs6
   obtain ⟨a6,c6,rfl,l6⟩:=hs6.shape
   have HK6:=Lib.hid (HK5.out.trans hk6)
   have HD6:=Lib.hid (HD5.out.kept hk6)
   have HY6:=Lib.hid (HY5.out.kept hk6)
   have HR6:=Lib.hid (HR5.out.kept hk6)
   have HO6:=Lib.hid (HO5.out.kept srcK hk6)
   have HB10:=Lib.hid (sty_cells (vE:=.slice aE y.entries.length cE) (y:=y) HY6.out)
   clear hk6 hs6 HK5 HD5 HY5 HR5 HO5 HSX b0 b1 b2 b3 b4 b5 b6 b7 b8 b9 bz
   obtain ⟨⟨b0,b1,b2,b3,b4,b5,b6,b7,b8,b9⟩,bz⟩:=HB10.out
   clear HB10
   have mkM:=run_makeMap (P:=Tryz.prog) 133 w6
   have HMT:=Lib.hid (MapT.made w6)
   go_upto_region 23 with fail
   have hf7:=Blk.new (w6.alloc (.map #[] 0)) 136 #[.string (bs y.name),.bool y.numeric,.string (bs y.sort),.string (bs y.cite),.string (bs y.bare),.string (bs y.between),.string (bs y.begin_),.string (bs y.end_),.int .i64 y.most,.slice aE y.entries.length cE,.string (bs lang),.slice none 0 0,.map (some w6.heap.size)]
   rw [World.size_alloc] at hf7
   have HKM:=Lib.hid ((kept_alloc w6 (.map #[] 0)).trans (kept_alloc _ (.cells #[.string (bs y.name),.bool y.numeric,.string (bs y.sort),.string (bs y.cite),.string (bs y.bare),.string (bs y.between),.string (bs y.begin_),.string (bs y.end_),.int .i64 y.most,.slice aE y.entries.length cE,.string (bs lang),.slice none 0 0,.map (some w6.heap.size)] 136)))
   have HM7:=Lib.hid (HMT.out.kept (kept_alloc (w6.alloc (.map #[] 0)) (.cells #[.string (bs y.name),.bool y.numeric,.string (bs y.sort),.string (bs y.cite),.string (bs y.bare),.string (bs y.between),.string (bs y.begin_),.string (bs y.end_),.int .i64 y.most,.slice aE y.entries.length cE,.string (bs lang),.slice none 0 0,.map (some w6.heap.size)] 136)))
   obtain ⟨M,HME⟩:∃ M,Hid (w6.heap.size=M):=⟨_,rfl⟩
   rw [HME.out] at hf7 HM7 HKM ⊢
   have HF7:=Lib.hid hf7
   have HRM:Hid (D+1+1<M):=by show _<_; rw [← HME.out]; exact HR6.out.lt
   clear hf7 HMT mkM b0 b1 b2 b3 b4 b5 b6 b7 b8 b9 bz
   generalize World.alloc (World.alloc w6 _) _=w7 at *
   have HK7:=Lib.hid (HK6.out.trans HKM.out)
   have HD7:=Lib.hid (HD6.out.kept HKM.out)
   have HR7:=Lib.hid (HR6.out.kept HKM.out)
   have HO7:=Lib.hid (HO6.out.kept srcK HKM.out)
   have HS7:=Lib.hid (HS6.out.kept HKM.out)
   have hD7:=HD7.out.lt
   clear HK6 HD6 HR6 HY6 HO7 HS7
   go_wp2_with fail
   obtain ⟨wo,rfl⟩:∃ wo:World,wo=wr:=⟨_,rfl⟩
   have HMW:Hid (w6.heap.size=M):=HME.out
   go_loopw [86] (fun i wr=>∃ (k:Nat) (vEn:Value) (es:List (Bs × Value)),k≤1∧i=.int .i64 k∧Hid (k=0→vEn=.slice none 0 0)∧Hid (Blk wr (M+1) 136 #[.string (bs y.name),.bool y.numeric,.string (bs y.sort),.string (bs y.cite),.string (bs y.bare),.string (bs y.between),.string (bs y.begin_),.string (bs y.end_),.int .i64 y.most,.slice aE y.entries.length cE,.string (bs lang),vEn,.map (some M)])∧Hid (MapT wr M es)∧Hid (k=1→∃ uA uS uF,getT es key=some (enV s [] 1 uA uS uF)∧Perss w6 uA s.author∧Perss w6 uS s.editor∧Prs w6 uF s.fields)∧Hid (Only (fun g=>g=M∨g=M+1∨w7.heap.size≤g) w7 wr)) (fun i _=>1 - (intOf i).toNat)
   case atStart=>exact ⟨0,.slice none 0 0,[],Nat.zero_le _,rfl,(fun _=>rfl),HF7.out,HM7.out,(fun h=>absurd h (by omega)),Only.of_kept (Kept.refl _)⟩
   case round =>
    obtain ⟨k,vEn,es,hk,rfl,HV0,HF,HM,HE1,HON⟩:=hrel
    by_cases hlt:k<1
    ·obtain rfl:k=0:=by omega
     obtain rfl:=HV0.out rfl
     have HKX:Hid (Kept w6 wr):=HKM.out.trans' (HON.out.below HKM.out.size (fun i e=>by have:=HMW.out; have:=HKM.out.size; omega))
     obtain ⟨g,cs,rfl,hgb,hgz,-,-,-,hcc,hR⟩:=HO6.out.at_ 0 s rfl
     obtain ⟨uA,uS,uF,rfl,hS⟩:=hR
     have d0:=(HKX.out.cell (p:=⟨g,0 * 5+0,none⟩) hgz).trans (hcc 0 _ rfl)
     have d1:=(HKX.out.cell (p:=⟨g,0 * 5+1,none⟩) hgz).trans (hcc 1 _ rfl)
     have d2:=(HKX.out.cell (p:=⟨g,0 * 5+2,none⟩) hgz).trans (hcc 2 _ rfl)
     have d3:=(HKX.out.cell (p:=⟨g,0 * 5+3,none⟩) hgz).trans (hcc 3 _ rfl)
     have d4:=(HKX.out.cell (p:=⟨g,0 * 5+4,none⟩) hgz).trans (hcc 4 _ rfl)
     simp only [Nat.zero_mul,Nat.zero_add] at d0 d1 d2 d3 d4
     obtain ⟨bA,eA,rfl,-⟩:=hS.1.1.shape
     obtain ⟨bS,eS,rfl,-⟩:=hS.2.1.1.shape
     obtain ⟨bF,eF,rfl,-⟩:=(show ∃ a c,uF=.slice a s.fields.length c∧s.fields.length≤c by obtain ⟨a,c,e,l,_⟩:=hS.2.2.1; exact ⟨a,c,e,l⟩)
     have HPA:=Lib.hid hS.1.1
     have HPS:=Lib.hid hS.2.1.1
     have HPF:=Lib.hid hS.2.2.1
     obtain ⟨g2,o2,rfl,hg2,t0',-,-⟩:=HS6.out.cell_of 0 _ rfl
     have t0:=(HKX.out.cell (p:=⟨g2,o2+0,none⟩) hg2).trans t0'
     rw [Nat.add_zero] at t0
     have hgr:g<wr.heap.size:=Nat.lt_of_lt_of_le hgz HKX.out.size
     have hgr2:g2<wr.heap.size:=Nat.lt_of_lt_of_le hg2 HKX.out.size
     have HIB:=Lib.hid (Blk.new wr 50 #[.string (bs s.key),.string (bs s.type),.slice bA s.author.length eA,.slice bS s.editor.length eS,.slice bF s.fields.length eF])
     have hka:=kept_alloc wr (.cells #[.string (bs s.key),.string (bs s.type),.slice bA s.author.length eA,.slice bS s.editor.length eS,.slice bF s.fields.length eF] 50)
     have HF2:=Lib.hid (HF.out.kept hka)
     have HM2:=Lib.hid (HM.out.kept hka)
     have HON2:=Lib.hid (HON.out.trans (Only.of_kept hka))
     have t2:=(hka.cell (p:=⟨g2,o2,none⟩) hgr2).trans t0
     have t2z:g2<(wr.alloc (.cells #[.string (bs s.key),.string (bs s.type),.slice bA s.author.length eA,.slice bS s.editor.length eS,.slice bF s.fields.length eF] 50)).heap.size:=Nat.lt_of_lt_of_le hgr2 hka.size
     obtain ⟨I,HIE⟩:∃ I,Hid (wr.heap.size=I):=⟨_,rfl⟩
     rw [HIE.out] at HIB
     have hMI:M+1<I:=by rw [← HIE.out]; exact HF.out.lt
     clear hcc hS t0' hka hgb HF HM HON HE1 HV0
     go_upto_region 26 with fail
     rw [HIE.out]
     generalize wr.alloc _=w8 at *
     clear d0 d1 d2 d3 d4 t0 hgr hgr2
     have i0:=HIB.out.cell 0 _ rfl
     have i1:=HIB.out.cell 1 _ rfl
     have i2:=HIB.out.cell 2 _ rfl
     have i3:=HIB.out.cell 3 _ rfl
     have i4:=HIB.out.cell 4 _ rfl
     have iz:=HIB.out.lt
     go_region
     have hke:Kept w8 (w8.alloc (.cells #[.string (bs s.key),.string (bs s.type),.slice bA s.author.length eA,.slice bS s.editor.length eS,.slice bF s.fields.length eF,.string (bs []),.int .i64 1] 138)).drew:=(kept_alloc w8 (.cells #[.string (bs s.key),.string (bs s.type),.slice bA s.author.length eA,.slice bS s.editor.length eS,.slice bF s.fields.length eF,.string (bs []),.int .i64 1] 138)).trans (kept_drewN _ 1)
     have HEB:Hid (Blk (w8.alloc (.cells #[.string (bs s.key),.string (bs s.type),.slice bA s.author.length eA,.slice bS s.editor.length eS,.slice bF s.fields.length eF,.string (bs []),.int .i64 1] 138)).drew w8.heap.size 138 #[.string (bs s.key),.string (bs s.type),.slice bA s.author.length eA,.slice bS s.editor.length eS,.slice bF s.fields.length eF,.string (bs []),.int .i64 1]):=(Blk.new w8 138 #[.string (bs s.key),.string (bs s.type),.slice bA s.author.length eA,.slice bS s.editor.length eS,.slice bF s.fields.length eF,.string (bs []),.int .i64 1]).kept (kept_drewN _ 1)
     have HIB3:=Lib.hid (HIB.out.kept hke)
     have HF3:=Lib.hid (HF2.out.kept hke)
     have HM3:=Lib.hid (HM2.out.kept hke)
     have HON3:Hid (Only (fun g=>g=M∨g=M+1∨w7.heap.size≤g) w7 (w8.alloc (.cells #[.string (bs s.key),.string (bs s.type),.slice bA s.author.length eA,.slice bS s.editor.length eS,.slice bF s.fields.length eF,.string (bs []),.int .i64 1] 138)).drew):=HON2.out.trans (Only.of_kept hke)
     obtain ⟨E,HEE⟩:∃ E,Hid (w8.heap.size=E):=⟨_,rfl⟩
     rw [HEE.out] at HEB
     have hIE:I<E:=by rw [← HEE.out]; exact iz
     go_upto_region 27 with fail
     rw [HEE.out]
     change Code.wp _ _ _ _ (w8.alloc (.cells #[.string (bs s.key),.string (bs s.type),.slice bA s.author.length eA,.slice bS s.editor.length eS,.slice bF s.fields.length eF,.string (bs []),.int .i64 1] 138)).drew
     generalize (w8.alloc (.cells #[.string (bs s.key),.string (bs s.type),.slice bA s.author.length eA,.slice bS s.editor.length eS,.slice bF s.fields.length eF,.string (bs []),.int .i64 1] 138)).drew=w9 at *
     clear i0 i1 i2 i3 i4 iz t2 t2z hke HIB HF2 HM2 HON2 HEE HIE
     have f11:=HF3.out.cell 11 _ rfl
     have ff11:=HF3.out.free 11
     have fz:=HF3.out.lt
     have c0:=HEB.out.cell 0 _ rfl
     have c1:=HEB.out.cell 1 _ rfl
     have c2:=HEB.out.cell 2 _ rfl
     have c3:=HEB.out.cell 3 _ rfl
     have c4:=HEB.out.cell 4 _ rfl
     have c5:=HEB.out.cell 5 _ rfl
     have c6:=HEB.out.cell 6 _ rfl
     have cz:=HEB.out.lt
     have hkf:Kept w9 (w9.alloc (.cells #[.string (bs s.key),.string (bs s.type),.slice bA s.author.length eA,.slice bS s.editor.length eS,.slice bF s.fields.length eF,.string (bs []),.int .i64 1] 138)).drew:=(kept_alloc w9 (.cells #[.string (bs s.key),.string (bs s.type),.slice bA s.author.length eA,.slice bS s.editor.length eS,.slice bF s.fields.length eF,.string (bs []),.int .i64 1] 138)).trans (kept_drewN _ 1)
     have HROW:Hid (Blk (w9.alloc (.cells #[.string (bs s.key),.string (bs s.type),.slice bA s.author.length eA,.slice bS s.editor.length eS,.slice bF s.fields.length eF,.string (bs []),.int .i64 1] 138)).drew w9.heap.size 138 #[.string (bs s.key),.string (bs s.type),.slice bA s.author.length eA,.slice bS s.editor.length eS,.slice bF s.fields.length eF,.string (bs []),.int .i64 1]):=(Blk.new w9 138 #[.string (bs s.key),.string (bs s.type),.slice bA s.author.length eA,.slice bS s.editor.length eS,.slice bF s.fields.length eF,.string (bs []),.int .i64 1]).kept (kept_drewN _ 1)
     have HNIL:Hid (OutG AnyK 7 (fun _=>True) 0 138 (w9.alloc (.cells #[.string (bs s.key),.string (bs s.type),.slice bA s.author.length eA,.slice bS s.editor.length eS,.slice bF s.fields.length eF,.string (bs []),.int .i64 1] 138)).drew (.slice none 0 0) ([]:List Unit)):=OutG.nil _ _ _ _ _ _
     have HKF:=Lib.hid hkf
     obtain ⟨iE,hiE,hzE0,hzE1,hzE2⟩:=info_parts Tryz.infoEnt
     clear hkf
     go_wp2_with fail
     go_region_law (first
      | (refine step_append_out anyK rfl (.tmp 103) (.tmp 105) 134 rfl iE _ 128 Tryz.underlying134 hiE hzE0 hzE1 hzE2 rfl (by omega) (by rfl) HNIL.out w9.heap.size _ () (by rfl) (fun j u hu=>HROW.out.cell j u (by rw [← Array.getElem?_toList]; exact hu)) rfl (by intro u hu; simp at hu; rcases hu with rfl | rfl | rfl | rfl | rfl | rfl | rfl <;> rfl) (by simp; unfold maxLen; omega) (by simp) (Nat.zero_le _) _ rfl ?_; intro g7 cap w10 hout7 hgrow7 hat7 hlt7; have HK10:Hid (Kept w9 w10):=HKF.out.trans' ((Only.grown hgrow7).below HKF.out.size (fun i q=>by cases q)); have f10:=(HF3.out.kept HK10.out).cell 11 _ rfl; have ff10:=(HF3.out.kept HK10.out).free 11; have fz10:=(HF3.out.kept HK10.out).lt; clear hout7 hgrow7 hat7 hlt7))
     all_goals
      have ho11:=Only.setCell (w:=w10) (M+1) 11 (.slice (some ⟨g7,0,none⟩) 1 cap)
      have HF11:Hid (Blk (w10.setCell ⟨M+1,11,none⟩ (.slice (some ⟨g7,0,none⟩) 1 cap)) (M+1) 136 #[.string (bs y.name),.bool y.numeric,.string (bs y.sort),.string (bs y.cite),.string (bs y.bare),.string (bs y.between),.string (bs y.begin_),.string (bs y.end_),.int .i64 y.most,.slice aE y.entries.length cE,.string (bs lang),.slice (some ⟨g7,0,none⟩) 1 cap,.map (some M)]):=(HF3.out.kept HK10.out).set 11 _
      have HM11:=Lib.hid ((HM3.out.kept HK10.out).only ho11 (by omega))
      have HE11:=Lib.hid ((HEB.out.kept HK10.out).onl ho11 (by omega))
      have HI11:=Lib.hid ((HIB3.out.kept HK10.out).onl ho11 (by omega))
      have HON11:Hid (Only (fun g=>g=M∨g=M+1∨w7.heap.size≤g) w7 (w10.setCell ⟨M+1,11,none⟩ (.slice (some ⟨g7,0,none⟩) 1 cap))):=(HON3.out.trans (Only.of_kept HK10.out)).trans (ho11.mono (fun i _ q=>.inr (.inl q)))
      clear ho11 HF3 HM3 HEB HIB3 HON3 HK10 f10 ff10 fz10 HROW HNIL HKF f11 ff11 fz c0 c1 c2 c3 c4 c5 c6 cz
      go_upto_region 28 with fail
      generalize w10.setCell _ _=w11 at *
      have k12:=HF11.out.cell 12 _ rfl
      have kz:=HF11.out.lt
      have i0:=HI11.out.cell 0 _ rfl
      have iz:=HI11.out.lt
      have c0:=HE11.out.cell 0 _ rfl
      have c1:=HE11.out.cell 1 _ rfl
      have c2:=HE11.out.cell 2 _ rfl
      have c3:=HE11.out.cell 3 _ rfl
      have c4:=HE11.out.cell 4 _ rfl
      have c5:=HE11.out.cell 5 _ rfl
      have c6:=HE11.out.cell 6 _ rfl
      have cz:=HE11.out.lt
      have hmd:MapT w11.drew M es:=HM11.out.kept (kept_drewN w11 1)
      obtain ⟨es',hes,up⟩:=upT (P:=Tryz.prog) (tm:=133) (te:=138) Tryz.underlying133 Tryz.underlying9 w11.drew M es s.key (.agg #[.string (bs s.key),.string (bs s.type),.slice bA s.author.length eA,.slice bS s.editor.length eS,.slice bF s.fields.length eF,.string (bs []),.int .i64 1]) hmd
      have HUP:=Lib.hid hes
      have HMD:=Lib.hid hmd
      clear hes hmd
      go_region
      all_goals
       have ho12:=putT_only w11.drew M es'
       have kd:Kept w11 w11.drew:=kept_drewN w11 1
       have HF12:Hid (Blk (putT w11.drew M es') (M+1) 136 #[.string (bs y.name),.bool y.numeric,.string (bs y.sort),.string (bs y.cite),.string (bs y.bare),.string (bs y.between),.string (bs y.begin_),.string (bs y.end_),.int .i64 y.most,.slice aE y.entries.length cE,.string (bs lang),.slice (some ⟨g7,0,none⟩) 1 cap,.map (some M)]):=(HF11.out.kept kd).onl ho12 (by omega)
       have HM12:Hid (MapT (putT w11.drew M es') M es'):=putT_map w11.drew M es' HMD.out.lt
       have HON12:Hid (Only (fun g=>g=M∨g=M+1∨w7.heap.size≤g) w7 (putT w11.drew M es')):=(HON11.out.trans (Only.of_kept kd)).trans (ho12.mono (fun i _ q=>.inl q))
       have HEN:Hid (getT es' key=some (enV s [] 1 (.slice bA s.author.length eA) (.slice bS s.editor.length eS) (.slice bF s.fields.length eF))):=by
        show _=_
        rw [HUP.out key,if_pos hsk.out.symm]
       clear ho12 kd HF11 HM11 HON11 HE11 HI11 HUP HMD up k12 kz i0 iz c0 c1 c2 c3 c4 c5 c6 cz
       go_wp2_with fail
       go_roundw
       case rel=>exact ⟨0+1,_,es',by omega,by go_num,(fun h=>absurd h (by omega)),HF12.out,HM12.out,(fun _=>⟨_,_,_,HEN.out,HPA.out,HPS.out,HPF.out⟩),HON12.out⟩
       case measure=>simp [intOf]
    ·obtain rfl:k=1:=by omega
     obtain ⟨uA,uS,uF,hge,pA,pS,pF⟩:=HE1.out rfl
     have HGE:=Lib.hid hge
     have HPA:=Lib.hid pA
     have HPS:=Lib.hid pS
     have HPF:=Lib.hid pF
     have HKX:Hid (Kept w6 wr):=HKM.out.trans' (HON.out.below HKM.out.size (fun i e=>by have:=HMW.out; have:=HKM.out.size; omega))
     have HK8:Hid (Kept w wr):=HK7.out.trans' (HON.out.below HK7.out.size (fun i e=>by have:=HRM.out; have:=HK7.out.size; omega))
     have hrm:=HRM.out
     have hr7:=HR7.out.lt
     have HD8:=Lib.hid (HD7.out.onl HON.out (by omega))
     have HR8:=Lib.hid (HR7.out.onl HON.out (by omega))
     have hMz:=HF.out.lt
     have HB8:=Lib.hid (fun w' (k:Kept wr w')=>HBK.out (M+1) M es vEn uA uS uF w' (HK8.out.trans k) (HF.out.kept k) (HM.out.kept k) HGE.out (HPA.out.kept (HKX.out.trans k)) (HPS.out.kept (HKX.out.trans k)) (HPF.out.kept (HKX.out.trans k)))
     have HM8:=Lib.hid (fun w' (k:Kept wr w')=>HCL.out w' (HK8.out.trans k))
     have x0:wr.cell? ⟨D,0,none⟩=some (.slice aM ms.length cM):=HD8.out.cell 0 _ rfl
     have x1:wr.cell? ⟨D,1,none⟩=some (.slice aB 1 cB):=HD8.out.cell 1 _ rfl
     have zD:D<wr.heap.size:=HD8.out.lt
     obtain ⟨R,HRE⟩:∃ R,Hid (D+1+1=R):=⟨_,rfl⟩
     have hDR':D≠R:=by have:=HRE.out; omega
     have hwR:w.heap.size≤R:=by have:=HRE.out; omega
     rw [HRE.out] at HR8
     have hR8:R<wr.heap.size:=HR8.out.lt
     have HCC:Hid (∀ w',Only (fun i=>i=R) wr w'→(w'.cell? ⟨D,0,none⟩=some (.slice aM ms.length cM)∧w'.cell? ⟨D,1,none⟩=some (.slice aB 1 cB))∧D<w'.heap.size∧Only (fun i=>i=R) wr w'):=fun w' h=>⟨⟨(h.cell D 0 zD hDR').trans x0,(h.cell D 1 zD hDR').trans x1⟩,Nat.lt_of_lt_of_le zD h.size,h⟩
     have hkd:Kept wr wr.drew:=kept_drewN wr 1
     have hod:Only (fun i=>i=R) wr wr.drew:=Only.of_kept hkd
     clear hge pA pS pF HGE HPA HPS HPF HKX HF HM HON HD8 HBK HCL HE1 HV0 HO6 HS6 HKM hrm hMz hr7 HMW HK7 HD7 HR7 HRM HF7 HM7
     go_upto_region 30 with fail
     rw [HRE.out]
     go_region_held3 (fun w'=>(w'.cell? ⟨D,0,none⟩=some (.slice aM ms.length cM)∧w'.cell? ⟨D,1,none⟩=some (.slice aB 1 cB))∧D<w'.heap.size∧Only (fun i=>i=R) wr w')
      ((refine HCC.out _ ?_; assumption))
      (first
       | (go_at_call 73; refine (HB8.out _ kA).mono ?_; rintro e wb ⟨vB1,b1,rfl,hB1,hpl1,hkb⟩; have kB:Kept wr wb:=kA.trans hkb; have oB:Only (fun i=>i=R) wr wb:=Only.of_kept kB; have HBR:=Lib.hid hB1; have HPL:=Lib.hid hpl1; have HMB:=Lib.hid (HMA.out.kept hkb); obtain ⟨aB1,cB1,hvb,lB1⟩:=hB1.form; have hvb':vB1=.slice aB1 1 cB1:=hvb; subst hvb'; have KAS:wr.heap.size≤wa.heap.size:=kA.size; have KBZ:=Lib.hid kB; have oC:Only (fun i=>i=R) wr ((wb.setCell ⟨R,0,none⟩ (.slice aM1 ms.length cM1)).setCell ⟨R,1,none⟩ (.slice aB1 1 cB1)):=(oB.trans (Only.setCell (w:=wb) R 0 (.slice aM1 ms.length cM1))).trans (Only.setCell R 1 (.slice aB1 1 cB1)); have r0:wb.cell? ⟨R,0,none⟩=some (.slice none 0 0):=(HR8.out.kept kB).cell 0 _ rfl; have r1:wb.cell? ⟨R,1,none⟩=some (.slice none 0 0):=(HR8.out.kept kB).cell 1 _ rfl; have s0:=(HR8.out.kept kB).free 0; have s1:=(HR8.out.kept kB).free 1; have rz:=(HR8.out.kept kB).lt; clear hB1 hkb hvb hpl1)
       | (go_at_call 72; refine (HM8.out _ (by assumption)).mono ?_; rintro e wa ⟨vM1,rfl,hm1,hi1,hka⟩; have kA:Kept wr wa:=Kept.trans (by assumption) hka; have oA:Only (fun i=>i=R) wr wa:=Only.of_kept kA; have HMA:=Lib.hid hm1; have HIM:Hid (InB (fun g=>R<g) vM1 ms.length):=hi1.mono (fun g _ _ q=>Nat.lt_of_lt_of_le hR8 q); obtain ⟨aM1,cM1,rfl,lM1⟩:=hm1.form; clear hm1 hi1 hka))
     all_goals
      have ho1:=Only.setCell (w:=wb) R 0 (.slice aM1 ms.length cM1)
      have ho2:=Only.setCell (w:=wb.setCell ⟨R,0,none⟩ (.slice aM1 ms.length cM1)) R 1 (.slice aB1 1 cB1)
      have ho:=ho1.trans ho2
      have hk9:=kept_set (kept_set (HK8.out.trans KBZ.out) R 0 (.slice aM1 ms.length cM1) hwR) R 1 (.slice aB1 1 cB1) hwR
      have hb9:Bls (fun g=>w.heap.size≤g) 2 1 ((wb.setCell ⟨R,0,none⟩ (.slice aM1 ms.length cM1)).setCell ⟨R,1,none⟩ (.slice aB1 1 cB1)) (.slice aB1 1 cB1) [b1] :=
       HBR.out.sam (S':=fun g=>w.heap.size≤g) (Sam.only ho (fun g _ q q2=>by omega)) (fun g _ q=>Nat.le_trans HK8.out.size (Nat.le_trans KAS q))
      have HFI:=Lib.hid (HFIN.out aM1 ms.length cM1 (.slice aB1 1 cB1) b1 _ hb9 HPL.out hk9)
      clear ho1 ho2 ho hk9 hb9 HFIN
      go_wp2_with fail
      refine bodyPost_ret (v:=.tuple #[.agg #[.slice aM1 ms.length cM1,.slice aB1 1 cB1],.int .i64 0]) ?_ rfl HFI.out
      simp [results,Tryz.results25,go_sem,r0,r1,rz]
end Go.Proofs.YtmcoomlkbgiboaaGreatDoor
