/- (*filler).citation at one part that has a suffix that begins with a comma. Conditions: lengths, the listed variables. -/
import Derived.Test.YtmcoomlkbgiboaaGreatDoorK34
import Derived.Test.YtmcoomlkbgiboaaGreatDoorK27
import Derived.Test.YtmcoomlkbgiboaaGreatDoorK32
import Derived.Test.YtmcoomlkbgiboaaGreatDoorK02
import Derived.Test.YtmcoomlkbgiboaaGreatDoorK20
import Derived.Test.YtmcoomlkbgiboaaGreatDoorK13
import Derived.Test.YtmcoomlkbgiboaaGreatDoorK11
import Derived.Test.YtmcoomlkbgiboaaGreatDoorK08
import Derived.Test.YtmcoomlkbgiboaaGreatDoorK03
import Derived.BigQuiet
import Derived.Deep.RegionWith
import Derived.Deep.RegionHeld3

set_option linter.all false
namespace Go.Proofs.YtmcoomlkbgiboaaGreatDoor
open Go.RowKit

theorem Tryz.zeroEnt (w:World):(zeroValue 138).run Tryz.prog w=.ok (.agg #[.string (bs []),.string (bs []),.slice none 0 0,.slice none 0 0,.slice none 0 0,.string (bs []),.int .i64 0]) w:=by kernel_rfl
/-- The text of such a citation. -/
def ctB (y:StyT) (lang:Bs) (s:SrcT) (n:Int) (suf:Bs):Bs:=(y.begin_ ++ (fillS (filT s y lang [] n) y.cite ++ suf)) ++ y.end_
set_option maxRecDepth 100000 in
set_option maxHeartbeats 12800000 in
theorem cicita_one {S:Nat→Prop} (F M:Nat) (es:List (Bs × Value)) (vY vEn vA vE vF vT:Value) (s:SrcT) (y:StyT) (lang key r:Bs) (n:Int) (w:World) (hen:EnvC w) (hf:Blk w F 136 (flC vY y lang vEn M)) (hm:MapT w M es) (hg:getT es key=some (enV s [] n vA vE vF)) (hY:vY.oneCell'=true) (hy:SmallY y) (hym : -9223372036854775808≤y.most∧y.most≤9223372036854775807) (hn : -9223372036854775808≤n∧n≤9223372036854775807)
  (hA:Perss w vA s.author) (hE:Perss w vE s.editor) (hF:Prs w vF s.fields) (hft:FitL s) (hr:r.length≤1000) (hfl:(fillS (filT s y lang [] n) y.cite).length≤100000000)
  (hT:Cits S w vT [⟨key,[],44 :: r,false⟩]) :
  Calls Tryz.prog 178 #[.pointer (some ⟨F,0,none⟩),vT] w fun e w'=>e=.returned (.agg (txC (ctB y lang s n (44 :: r))).toArray)∧Kept w w':=by
 obtain ⟨i0,hi,hz0,hz1,hz2⟩:=info_parts Tryz.infoStr
 obtain ⟨aT,cT,rfl,lT⟩:=hT.form
 obtain ⟨g,o,cs,rfl,hgg,hgS,-,hcs,hcc,-,-⟩:=RowR.at_ (show RowR S 4 CitW w _ _ from hT) 0 _ rfl
 rw [hcc] at hcs
 have d0:w.cell? ⟨g,o+0 * 4,none⟩=some (.string (bs key)):=hcs 0 _ rfl
 have d1:w.cell? ⟨g,o+0 * 4+1,none⟩=some (.string (bs [])):=hcs 1 _ rfl
 have d2:w.cell? ⟨g,o+0 * 4+2,none⟩=some (.string (bs (44 :: r))):=hcs 2 _ rfl
 have d3:w.cell? ⟨g,o+0 * 4+3,none⟩=some (.bool false):=hcs 3 _ rfl
 rw [Nat.zero_mul,Nat.add_zero] at d0 d1 d2 d3
 have HD:=Lib.hid (show w.cell? ⟨g,o,none⟩=some (.string (bs key))∧w.cell? ⟨g,o+1,none⟩=some (.string (bs []))∧w.cell? ⟨g,o+2,none⟩=some (.string (bs (44 :: r)))∧w.cell? ⟨g,o+3,none⟩=some (.bool false) from ⟨d0,d1,d2,d3⟩)
 have HFB:=Lib.hid hf
 have HMT:=Lib.hid hm
 have HGT:=Lib.hid hg
 have HFL:=Lib.hid (fun w' (k:Kept w w')=>cifill_f F M vY vEn vA vE vF s y lang [] y.cite n w' (hen.kept k) (hf.kept k) hY hy.2.2.1 hym hn (hA.kept k) (hE.kept k) (hF.kept k) hft (by simp))
 have hrow:([⟨key,[],44 :: r,false⟩]:List Cit).length=1:=rfl
 obtain ⟨z1,z2,z3⟩:y.begin_.length≤100000∧y.end_.length≤100000∧y.between.length≤100000:=⟨hy.2.2.2.2.2.1,hy.2.2.2.2.2.2.1,hy.2.2.2.2.1⟩
 obtain ⟨ft,HFT⟩:∃ ft,Hid (fillS (filT s y lang [] n) y.cite=ft):=⟨_,rfl⟩
 have HCT:Hid (ctB y lang s n (44 :: r)=(y.begin_ ++ (ft ++ 44 :: r)) ++ y.end_):=by show _=_; unfold ctB; rw [HFT.out]
 rw [HFT.out] at HFL hfl
 rw [HCT.out]
 clear d0 d1 d2 d3 hcs hcc hf hm hg hen hA hE hF hft hT HFT HCT
 obtain ⟨R,HRE⟩:∃ R,Hid (w.heap.size=R):=⟨_,rfl⟩
 have HR0:=Lib.hid (Blk.new w 71 zInC)
 unfold zInC at HR0
 have HK0:=Lib.hid (kept_alloc w (.cells #[.int .i64 0,.string (bs []),.string (bs []),.string (bs []),.string (bs []),.slice none 0 0,.slice none 0 0,.slice none 0 0,.slice none 0 0,.slice none 0 0] 71))
 rw [HRE.out] at HR0
 go_enter Tryz.func178,Tryz.ntmps178
 have HIX:=Lib.hid (fun w=>run_ix (P:=Tryz.prog) (t:=9) Tryz.underlying9 (44 :: r) 0 (by simp) 0 rfl w)
 have h44:at8 (44 :: r) 0=44:=rfl
 rw [h44] at HIX
 obtain ⟨ad1,ln1⟩:=add_bsG (P:=Tryz.prog) ft (44 :: r) (ft ++ 44 :: r) 100000000 1001 rfl hfl (by simp; omega) (by omega)
 obtain ⟨suf,HSU⟩:∃ suf,Hid (44 :: r=suf):=⟨_,rfl⟩
 have hs1:(suf == ([]:Bs))=false:=by rw [← HSU.out]; rfl
 have hs2:suf.isEmpty=false:=by rw [← HSU.out]; rfl
 rw [HSU.out] at HIX ad1 HD ln1 ⊢
 obtain ⟨pt,HPT⟩:∃ pt,Hid (ft ++ suf=pt):=⟨_,rfl⟩
 rw [HPT.out] at ad1 ln1 ⊢
 obtain ⟨ad2,ln2⟩:=add_bsG (P:=Tryz.prog) y.begin_ pt (y.begin_ ++ pt) 100000 100001001 rfl z1 ln1 (by omega)
 obtain ⟨ad3,ln3⟩:=add_bsG (P:=Tryz.prog) (y.begin_ ++ pt) y.end_ ((y.begin_ ++ pt) ++ y.end_) 100101001 100000 rfl ln2 z2 (by omega)
 have HAD1:=Lib.hid ad1
 have HAD2:=Lib.hid ad2
 have HAD3:=Lib.hid ad3
 clear ad1 ad2 ad3 h44
 go_upto_region 2 with fail
 rw [HRE.out]
 generalize w.alloc _=w0 at *
 have hRz:w.heap.size≤R:=by rw [HRE.out]; exact Nat.le_refl _
 go_wp2_with fail
 go_loopw [5,12] (fun v i wr=>∃ (k:Nat),k≤1∧i=.int .i64 k∧Hid (OutG StrK 1 (fun _=>False) w0.heap.size 9 wr v ([pt].take k))∧Hid (Kept w0 wr)) (fun _ i _=>1 - (intOf i).toNat)
 case atStart=>exact ⟨0,Nat.zero_le _,rfl,OutG.nil _ _ _ _ _ _,Kept.refl _⟩
 case round =>
  obtain ⟨k,hk,rfl,HGR,HKR⟩:=hrel
  have HKW:=Lib.hid (HK0.out.trans HKR.out)
  by_cases hlt:k<1
  ·obtain rfl:k=0:=by omega
   have HG0:Hid (OutG StrK 1 (fun _=>False) w0.heap.size 9 wr _ []):=HGR.out
   obtain ⟨ar,cr,rfl,hcr,hmr⟩:=HG0.out.form
   obtain ⟨e0,e1,e2,e3⟩:=HD.out
   have d0:=(HKW.out.cell (p:=⟨g,o,none⟩) hgg).trans e0
   have d1:=(HKW.out.cell (p:=⟨g,o+1,none⟩) hgg).trans e1
   have d2:=(HKW.out.cell (p:=⟨g,o+2,none⟩) hgg).trans e2
   have d3:=(HKW.out.cell (p:=⟨g,o+3,none⟩) hgg).trans e3
   have hgz:g<wr.heap.size:=Nat.lt_of_lt_of_le hgg HKW.out.size
   have hka:=kept_alloc wr (.cells #[.string (bs key),.string (bs []),.string (bs suf),.bool false] 68)
   have HC0:=Lib.hid (Blk.new wr 68 #[.string (bs key),.string (bs []),.string (bs suf),.bool false])
   have HKA:=Lib.hid (HKW.out.trans hka)
   have HG1:=Lib.hid (HG0.out.kept strK hka)
   have HK1:=Lib.hid (HKR.out.trans hka)
   have HF1:=Lib.hid (HFB.out.kept HKA.out)
   obtain ⟨C,HCE⟩:∃ C,Hid (wr.heap.size=C):=⟨_,rfl⟩
   rw [HCE.out] at HC0
   clear hka e0 e1 e2 e3 HGR HG0
   go_upto_region 5 with fail
   rw [HCE.out]
   generalize wr.alloc _=w1 at *
   clear HCE d0 d1 d2 d3 hgz
   unfold flC at HF1
   have f3:=HF1.out.cell 3 _ rfl
   have f12:=HF1.out.cell 12 _ rfl
   have fz:=HF1.out.lt
   have c0:=HC0.out.cell 0 _ rfl
   have c1:=HC0.out.cell 1 _ rfl
   have c2:=HC0.out.cell 2 _ rfl
   have c3:=HC0.out.cell 3 _ rfl
   have cz:=HC0.out.lt
   have hm1:=HMT.out.kept (HKA.out.trans (kept_drewN w1 1))
   have lk:=lookT (P:=Tryz.prog) (tm:=133) (te:=138) Tryz.underlying133 Tryz.underlying9 w1.drew M es key _ (Tryz.zeroEnt _) hm1
   rw [HGT.out,Option.getD_some] at lk
   have HCC:Hid (∀ w',Kept w1 w'→(w'.cell? ⟨F,12,none⟩=some (.map (some M))∧w'.cell? ⟨C,0,none⟩=some (.string (bs key)))∧(F<w'.heap.size∧C<w'.heap.size)∧Kept w1 w'):=fun w' k =>
    ⟨⟨(HF1.out.kept k).cell 12 _ rfl,(HC0.out.kept k).cell 0 _ rfl⟩,⟨(HF1.out.kept k).lt,(HC0.out.kept k).lt⟩,k⟩
   have hkd:Kept w1 w1.drew:=kept_drewN w1 1
   unfold enV at lk HFL
   clear hm1
   go_upto_region 8 with fail
   go_region_held3 (fun w'=>(w'.cell? ⟨F,12,none⟩=some (.map (some M))∧w'.cell? ⟨C,0,none⟩=some (.string (bs key)))∧(F<w'.heap.size∧C<w'.heap.size)∧Kept w1 w')
    ((refine HCC.out _ ?_; assumption))
    (first
     | (go_at_call 175; refine (HFL.out _ (HKA.out.trans hkd)).mono ?_; rintro e w3 ⟨rfl,hk3⟩; have k3:Kept w1 w3:=hkd.trans hk3; clear hk3))
   have HG3:=Lib.hid (HG1.out.kept strK k3)
   have HK3:=Lib.hid (HK1.out.trans k3)
   have HC3:=Lib.hid (HC0.out.kept k3)
   clear lk hkd HCC f3 f12 fz c0 c1 c2 c3 cz k3 HF1 HC0 HG1 HK1 HKA HGT
   have c1:=HC3.out.cell 1 _ rfl
   have c2:=HC3.out.cell 2 _ rfl
   have cz:=HC3.out.lt
   have ix:=HIX.out w3
   have ad:=HAD1.out w3
   have hka:=kept_alloc w3 (.cells #[.string (bs pt)] 9)
   have HROW:=Lib.hid (Blk.new w3 9 #[.string (bs pt)])
   have HG6:=Lib.hid (HG3.out.kept strK hka)
   have HK6:=Lib.hid (HK3.out.trans hka)
   have hb6:w0.heap.size≤(w3.alloc (.cells #[.string (bs pt)] 9)).heap.size:=HK6.out.size
   clear hka HG3 HK3
   go_wp2_with (at_builtin; refine holdC ?_)
   refine Lib.hid ?_
   refine wpList_append_out strK rfl (.tmp 59) (.tmp 61) 29 rfl i0 _ 16 Tryz.underlying29 hi hz0 hz1 hz2 rfl (by omega) (by rfl) HG6.out _ [.string (bs pt)] pt (by rfl) (fun j u hu=>HROW.out.cell j u (by rw [← Array.getElem?_toList]; exact hu)) rfl rfl (by simp; unfold maxLen; omega) (by simp) hb6 _ rfl ?_
   intro g7 c7' w7 hout7 hgrow7 hat7 hlt7
   have HOUT8:Hid (OutG StrK 1 (fun _=>False) w0.heap.size 9 w7 (.slice (some ⟨g7,0,none⟩) (([]:List Bs).length+1) c7') ([pt].take (0+1))):=hout7
   have HK7:Hid (Kept w0 w7):=HK6.out.trans' ((Only.grown hgrow7).below HK6.out.size (fun i q=>(HG6.out.blk i q.symm).1))
   clear hout7 hgrow7 hat7 hlt7 HROW HG6 HK6 hb6 c1 c2 cz ix ad HC3
   go_wp2_with fail
   go_roundw
   case rel=>exact ⟨0+1,by omega,by go_num,HOUT8.out,HK7.out⟩
   case measure=>simp [intOf]
  ·obtain rfl:k=1:=by omega
   have HG0:Hid (OutG StrK 1 (fun _=>False) w0.heap.size 9 wr _ [pt]):=HGR.out
   obtain ⟨ar,cr,rfl,hcr,hmr⟩:=HG0.out.form
   have hfk:=HFB.out.kept HKW.out
   unfold flC at hfk
   have HCF:Hid (F<wr.heap.size∧wr.cell? ⟨F,6,none⟩=some (.string (bs y.begin_))∧wr.cell? ⟨F,5,none⟩=some (.string (bs y.between))∧wr.cell? ⟨F,7,none⟩=some (.string (bs y.end_))):=⟨hfk.lt,hfk.cell 6 _ rfl,hfk.cell 5 _ rfl,hfk.cell 7 _ rfl⟩
   have HJN:Hid (∀ w',Kept wr w'→Calls Tryz.prog 88 #[.slice ar [pt].length cr,.string (bs y.between)] w' fun e w''=>e=.returned (.string (bs pt))∧Kept w' w''):=fun w' k=>by
    have hj:Lib.join [pt] y.between=pt:=by simp [Lib.join,Lib.joinTail]
    have h:=join_any (.slice ar [pt].length cr) [pt] y.between w' ((Strs.outO HG0.out).kept k) (by simp) (by rw [hj]; omega)
    rw [hj] at h
    exact h
   have HRR:Hid (Blk wr R 71 zInC):=HR0.out.kept HKR.out
   clear hfk HGR
   go_upto_region 17 with fail
   refine reg_cit17 (.slice ar [pt].length cr) F R y.begin_ y.end_ y.between pt (y.begin_ ++ pt) (y.begin_ ++ pt ++ y.end_) (by kernel_rfl) ⟨_,rfl,rfl,rfl,rfl⟩ ⟨_,rfl,rfl,rfl,rfl⟩ ⟨_,rfl,rfl,rfl,rfl⟩ ⟨_,rfl,rfl,rfl,rfl⟩ ⟨_,rfl,rfl,rfl,rfl⟩ ⟨_,rfl,rfl,rfl,rfl⟩ ⟨_,rfl,rfl,rfl,rfl⟩ ⟨_,rfl,rfl,rfl,rfl⟩ ⟨_,rfl,rfl,rfl,rfl⟩ ⟨_,rfl,rfl,rfl,rfl⟩ ⟨_,rfl,rfl,rfl,rfl⟩ ⟨_,rfl,rfl,rfl,rfl⟩ ⟨_,rfl,rfl,rfl,rfl⟩ ⟨_,rfl,rfl,rfl,rfl⟩ ⟨_,rfl,rfl,rfl,rfl⟩ ⟨_,rfl,rfl,rfl,rfl⟩ ⟨_,rfl,rfl,rfl,rfl⟩ ⟨_,rfl,rfl,rfl,rfl⟩ ⟨_,rfl,rfl,rfl,rfl⟩ ⟨_,rfl,rfl,rfl,rfl⟩ ⟨_,rfl,rfl,rfl,rfl⟩
    (by simp) rfl rfl rfl HRR HCF HJN HAD2 HAD3 ?_
   intro V w1 w9 hk1 ho1 hb1
   simp only [Act.put,List.setIfInBounds_toArray,List.set_cons_zero,List.set_cons_succ]
   have HK9:Hid (Kept w w9):=(HKW.out.trans hk1).trans' (ho1.below (HKW.out.trans hk1).size (fun i e=>by rw [e]; exact hRz))
   unfold txC at hb1
   have r0:=hb1.cell 0 _ rfl
   have r1:=hb1.cell 1 _ rfl
   have r2:=hb1.cell 2 _ rfl
   have r3:=hb1.cell 3 _ rfl
   have r4:=hb1.cell 4 _ rfl
   have r5:=hb1.cell 5 _ rfl
   have r6:=hb1.cell 6 _ rfl
   have r7:=hb1.cell 7 _ rfl
   have r8:=hb1.cell 8 _ rfl
   have r9:=hb1.cell 9 _ rfl
   have rz:=hb1.lt
   clear hk1 ho1 hb1 HRR HCF HJN
   go_wp2_with fail
   refine bodyPost_ret (v:=.agg #[.int .i64 1,.string (bs (txB (y.begin_ ++ pt ++ y.end_))),.string (bs []),.string (bs []),.string (bs []),.slice none 0 0,.slice none 0 0,.slice none 0 0,.slice none 0 0,.slice none 0 0]) ?_ rfl ⟨rfl,HK9.out⟩
   simp [results,Tryz.results178,go_sem,r0,r1,r2,r3,r4,r5,r6,r7,r8,r9,rz]
end Go.Proofs.YtmcoomlkbgiboaaGreatDoor

/- (*filler).line at one citation. Conditions: lengths, the listed variables. -/
set_option linter.all false
namespace Go.Proofs.YtmcoomlkbgiboaaGreatDoor
open Go.RowKit

set_option maxRecDepth 100000 in
set_option maxHeartbeats 12800000 in
theorem ciline_one {S:Nat→Prop} (F M N:Nat) (es:List (Bs × Value)) (vY vEn vA vE vF v:Value) (s:SrcT) (y:StyT) (lang key r text dest title id:Bs) (cls args:List Bs) (prs:List Pr) (kids:List Inl) (n:Int) (w:World) (hen:EnvC w) (hf:Blk w F 136 (flC vY y lang vEn M)) (hm:MapT w M es) (hg:getT es key=some (enV s [] n vA vE vF)) (hY:vY.oneCell'=true) (hy:SmallY y) (hym : -9223372036854775808≤y.most∧y.most≤9223372036854775807) (hn : -9223372036854775808≤n∧n≤9223372036854775807)
  (hA:Perss w vA s.author) (hE:Perss w vE s.editor) (hF:Prs w vF s.fields) (hft:FitL s) (hr:r.length≤1000) (hfl:(fillS (filT s y lang [] n) y.cite).length≤100000000)
  (hT:Lns S (N+1) w v [.mk 13 text dest title id cls prs args [⟨key,[],44 :: r,false⟩] kids]) :
  Calls Tryz.prog 130 #[.pointer (some ⟨F,0,none⟩),v] w fun e w'=>∃ v',e=.returned v'∧Lns (fun g=>w.heap.size≤g) 1 w' v' [txI (ctB y lang s n (44 :: r))]∧Kept w w':=by
 obtain ⟨i0,hi,hz0,hz1,hz2⟩:=info_parts Tryz.infoIn
 obtain ⟨a,c,rfl,hc⟩:=hT.form
 have HV:=Lib.hid hT
 have HCI:=Lib.hid (fun w' (k:Kept w w') vT (h:Cits S w' vT [⟨key,[],44 :: r,false⟩])=>cicita_one F M es vY vEn vA vE vF vT s y lang key r n w' (hen.kept k) (hf.kept k) (hm.kept k) hg hY hy hym hn (hA.kept k) (hE.kept k) (hF.kept k) hft hr hfl h)
 have HFIN:Hid (∀ v' w',OutG (InlK 0) 10 (fun _=>False) w.heap.size 71 w' v' [txI (ctB y lang s n (44 :: r))]→Kept w w'→∃ v'',Ending.returned v'=.returned v''∧Lns (fun g=>w.heap.size≤g) 1 w' v'' [txI (ctB y lang s n (44 :: r))]∧Kept w w'):=fun v' w' h k=>⟨v',rfl,OutG.row (S:=fun g=>w.heap.size≤g) (inlK 0) h (fun _ _ q=>q.elim) (fun g h=>h),k⟩
 generalize ctB y lang s n (44 :: r)=tx at *
 have hrow:([Inl.mk 13 text dest title id cls prs args [⟨key,[],44 :: r,false⟩] kids]:List Inl).length=1:=rfl
 rw [hrow] at hc HV ⊢
 clear hT hen hf hm hg hA hE hF hft hfl hrow
 go_enter Tryz.func130,Tryz.ntmps130
 go_wp2_with fail
 go_loopw [5,10] (fun v i wr=>∃ (k:Nat),k≤1∧i=.int .i64 k∧Hid (OutG (InlK 0) 10 (fun _=>False) w.heap.size 71 wr v ([txI tx].take k))∧Hid (Kept w wr)) (fun _ i _=>1 - (intOf i).toNat)
 case atStart=>exact ⟨0,Nat.zero_le _,rfl,OutG.nil _ _ _ _ _ _,Kept.refl _⟩
 case round =>
  obtain ⟨k,hk,rfl,HGR,HKR⟩:=hrel
  by_cases hlt:k<1
  ·obtain rfl:k=0:=by omega
   have HG0:Hid (OutG (InlK 0) 10 (fun _=>False) w.heap.size 71 wr _ []):=HGR.out
   obtain ⟨ar,cr,rfl,hcr,hmr⟩:=HG0.out.form
   obtain ⟨g,o,vC,vP,vA',vT,vK,rfl,hgg,hgS,-,-,⟨d0,d1,d2,d3,d4,d5,d6,d7,d8,d9⟩,-,⟨hC,iC⟩,⟨hPP,iP⟩,⟨hA',iA⟩,hTT,hK⟩:=Lns.at_ (HV.out.kept HKR.out) 0 _ rfl
   simp only [Inl.kind,Inl.text,Inl.dest,Inl.title,Inl.id,Inl.cls,Inl.prs,Inl.args,Inl.cits,Inl.kids,Nat.zero_mul,Nat.add_zero] at d0 d1 d2 d3 d4 d5 d6 d7 d8 d9 hC hPP hA' hTT hK
   obtain ⟨aC,cC,rfl,lC⟩:=hC.shape
   obtain ⟨aP,cP,rfl,lP⟩:=hPP.shape
   obtain ⟨aA,cA,rfl,lA⟩:=hA'.shape
   obtain ⟨aT,cT,rfl,lT⟩:=hTT.form
   obtain ⟨aK,cK,rfl,lK⟩:=hK.form
   have HKA:=Lib.hid (kept_alloc wr (.cells #[.int .i64 13,.string (bs text),.string (bs dest),.string (bs title),.string (bs id),.slice aC cls.length cC,.slice aP prs.length cP,.slice aA args.length cA,.slice aT ([⟨key,[],44 :: r,false⟩]:List Cit).length cT,.slice aK kids.length cK] 71))
   have HCX:=Lib.hid (HCI.out _ (HKR.out.trans HKA.out) _ (hTT.sam (S':=S) (Sam.kept HKA.out) (fun _ _ q=>q)))
   have HG1:=Lib.hid (HG0.out.kept (inlK 0) HKA.out)
   clear hC hPP hA' hTT hK iC iP iA HGR HG0 HCI
   go_wp2_with fail
   refine HCX.out.mono ?_
   rintro e w3 ⟨rfl,hk3⟩
   unfold txC
   have hka:=kept_alloc w3 (.cells #[.int .i64 1,.string (bs (txB tx)),.string (bs []),.string (bs []),.string (bs []),.slice none 0 0,.slice none 0 0,.slice none 0 0,.slice none 0 0,.slice none 0 0] 71)
   have HROW:=Lib.hid (Blk.new w3 71 #[.int .i64 1,.string (bs (txB tx)),.string (bs []),.string (bs []),.string (bs []),.slice none 0 0,.slice none 0 0,.slice none 0 0,.slice none 0 0,.slice none 0 0])
   have HG6:=Lib.hid ((HG1.out.kept (inlK 0) hk3).kept (inlK 0) hka)
   have HK6:=Lib.hid (((HKR.out.trans HKA.out).trans hk3).trans hka)
   have hb6:w.heap.size≤(w3.alloc (.cells #[.int .i64 1,.string (bs (txB tx)),.string (bs []),.string (bs []),.string (bs []),.slice none 0 0,.slice none 0 0,.slice none 0 0,.slice none 0 0,.slice none 0 0] 71)).heap.size:=HK6.out.size
   have HYY:Hid (InlK 0 (fun g=>False∧(Value.slice ar ([]:List Inl).length cr).ownBlock≠some g) (w3.alloc (.cells #[.int .i64 1,.string (bs (txB tx)),.string (bs []),.string (bs []),.string (bs []),.slice none 0 0,.slice none 0 0,.slice none 0 0,.slice none 0 0,.slice none 0 0] 71)) [.int .i64 1,.string (bs (txB tx)),.string (bs []),.string (bs []),.string (bs []),.slice none 0 0,.slice none 0 0,.slice none 0 0,.slice none 0 0,.slice none 0 0] (txI tx)) :=
    ⟨_,_,_,_,_,rfl,⟨Strs.none_ _,InB.nil _ _⟩,⟨Prs.none_ _,InB.nil _ _⟩,⟨Strs.none_ _,InB.nil _ _⟩,RowR.none_ _ _ _ _,Lns.none_ _ _ _⟩
   clear hka hk3 HG1 HCX HKA d0 d1 d2 d3 d4 d5 d6 d7 d8 d9
   go_wp2_with (at_builtin; refine holdC ?_)
   refine Lib.hid ?_
   refine wpList_append_out (inlK 0) rfl (.tmp 17) (.tmp 22) 57 rfl i0 _ 192 Tryz.underlying57 hi hz0 hz1 hz2 rfl (by omega) (by rfl) HG6.out w3.heap.size _ _ (by rfl) (fun j u hu=>HROW.out.cell j u (by rw [← Array.getElem?_toList]; exact hu)) rfl HYY.out (by simp; unfold maxLen; omega) (by simp) hb6 _ rfl ?_
   intro g7 c7' w7 hout7 hgrow7 hat7 hlt7
   have HOUT8:Hid (OutG (InlK 0) 10 (fun _=>False) w.heap.size 71 w7 (.slice (some ⟨g7,0,none⟩) (([]:List Inl).length+1) c7') ([txI tx].take (0+1))):=hout7
   have HK7:Hid (Kept w w7):=HK6.out.trans' ((Only.grown hgrow7).below HK6.out.size (fun i q=>(HG6.out.blk i q.symm).1))
   clear hout7 hgrow7 hat7 hlt7 HROW HG6 HK6 hb6 HYY
   go_wp2_with fail
   go_roundw
   case rel=>exact ⟨0+1,by omega,by go_num,HOUT8.out,HK7.out⟩
   case measure=>simp [intOf]
  ·obtain rfl:k=1:=by omega
   have HG0:Hid (OutG (InlK 0) 10 (fun _=>False) w.heap.size 71 wr _ [txI tx]):=HGR.out
   obtain ⟨ar,cr,rfl,hcr,hmr⟩:=HG0.out.form
   have HF:=Lib.hid (HFIN.out _ _ HG0.out HKR.out)
   clear HGR HG0 HFIN
   go_wp2_with fail
   (try go_ret)
   exact HF.out
end Go.Proofs.YtmcoomlkbgiboaaGreatDoor

/- The plain text of inlines: writePlain and Plain of tree; useName of gloss. Conditions: lengths. -/
set_option linter.all false
namespace Go.Proofs.YtmcoomlkbgiboaaGreatDoor
open Go.RowKit

theorem byteC_app (a b:Bs):Lib.byteCells (a ++ b)=Lib.byteCells a ++ Lib.byteCells b:=by simp [Lib.byteCells]
end Go.Proofs.YtmcoomlkbgiboaaGreatDoor

/- tree.Inlines: all inlines of blocks. Conditions: lengths. -/
set_option linter.all false
namespace Go.Proofs.YtmcoomlkbgiboaaGreatDoor
open Go.RowKit

/-- The function that goes through a line. -/
abbrev inF (O F:Nat):Value:=.func (.func 76) #[] #[.pointer (some ⟨O,0,none⟩),.pointer (some ⟨F,0,none⟩)]
/-- What it leaves: the list is longer, all else from below its rows is as it was. -/
def In1P (A:Nat→Prop) (N O F base:Nat) (ys zs:List Inl) (w:World) (e:Ending) (w':World):Prop:=e=.returned (.tuple #[])∧∃ vO,Blk w' O 57 #[vO]∧OutG (InlK N) 10 A base 71 w' vO (ys ++ zs)∧Only (fun g=>g=O∨base≤g) w w'
set_option maxRecDepth 100000 in
set_option maxHeartbeats 12800000 in
theorem inline1_any (A:Nat→Prop) (N B O F base:Nat) (hAO:∀ g,A g→g≠O) (hAB:∀ g,g<B→A g) (hAb:∀ g,base≤g→A g) (hBO:B≤O) (hBF:B≤F) (hOF:O≠F) (hOb:O<base) (hFb:F<base):∀ (n:Nat) (xs:List Inl) (v:Value) (ys:List Inl) (vO:Value) (w:World),n≤N→Lns (fun g=>g<B) n w v xs→xs.length≤1000000→okIL xs→base≤w.heap.size→Blk w O 57 #[vO]→Blk w F 142 #[inF O F]→OutG (InlK N) 10 A base 71 w vO ys→ys.length+(deepL xs).length≤1000000 →
  Calls Tryz.prog 76 #[v,.pointer (some ⟨O,0,none⟩),.pointer (some ⟨F,0,none⟩)] w (In1P A N O F base ys (deepL xs) w):=by
 intro n
 induction n with
 | zero =>
  intro xs v ys vO w hN hv hl hok hb hO hF hout hlen
  obtain rfl:=hv.no
  obtain ⟨a,c,rfl,hc⟩:=hv.form
  have HFIN:In1P A N O F base ys (deepL []) w (.returned (.tuple #[])) w:=⟨rfl,vO,hO,by show OutG _ _ _ _ _ _ _ (ys ++ []); rw [List.append_nil]; exact hout,Only.of_kept (Kept.refl w)⟩
  clear hv hok hO hF hout hlen
  go_enter Tryz.func76,Tryz.ntmps76
  go_wp2_with fail
  go_loopw [8] (fun i wr=>i=.int .i64 0∧w=wr) (fun i _=>1)
  case atStart=>exact ⟨rfl,rfl⟩
  case round =>
   obtain ⟨rfl,rfl⟩:=hrel
   go_wp2_with fail
   (try simp only [Exit.inBlock,Exit.then]); refine bodyPost_ret (results_none rfl _ _ _) rfl ?_
   exact HFIN
 | succ n ih =>
  intro xs v ys vO w hN hv hl hok hb hO hF hout hlen
  have HV:=Lib.hid hv
  have HOK:=Lib.hid hok
  have HO0:=Lib.hid hO
  have HF0:=Lib.hid hF
  have HG0:Hid (OutG (InlK N) 10 A base 71 w vO (ys ++ deepL (xs.take 0))):=by show OutG _ _ _ _ _ _ _ (ys ++ []); rw [List.append_nil]; exact hout
  have HFIN:Hid (∀ vO w',Blk w' O 57 #[vO]→OutG (InlK N) 10 A base 71 w' vO (ys ++ deepL (xs.take xs.length))→Only (fun g=>g=O∨base≤g) w w'→In1P A N O F base ys (deepL xs) w (.returned (.tuple #[])) w'):=fun vO w' h1 h2 h3=>⟨rfl,vO,h1,by rw [List.take_length] at h2; exact h2,h3⟩
  have HLE:=Lib.hid (deepL_le xs)
  have HTK:Hid (∀ (k:Nat) (x:Inl),xs[k]? = some x→deepL (xs.take (k+1))=deepL (xs.take k) ++ (x :: deepL x.kids)):=fun k x h=>by rw [deepL_take h,deep1_eq]
  have HIH:=Lib.hid ih
  unfold In1P at HIH
  obtain ⟨a,c,rfl,hc⟩:=hv.form
  generalize hP:In1P A N O F base ys (deepL xs) w=P at *
  clear hP hv hok hO hF hout ih
  go_enter Tryz.func76,Tryz.ntmps76
  go_wp2_with fail
  go_loopw [8] (fun i wr=>∃ (k:Nat) (vr:Value),k≤xs.length∧i=.int .i64 k∧Hid (Blk wr O 57 #[vr])∧Hid (OutG (InlK N) 10 A base 71 wr vr (ys ++ deepL (xs.take k)))∧Hid (Only (fun g=>g=O∨base≤g) w wr)) (fun i _=>xs.length - (intOf i).toNat)
  case atStart=>exact ⟨0,vO,Nat.zero_le _,rfl,HO0.out,HG0.out,Only.of_kept (Kept.refl w)⟩
  case round =>
   obtain ⟨k,vr,hk,rfl,HOR,HGR,HKR⟩:=hrel
   have hbr:base≤wr.heap.size:=Nat.le_trans hb HKR.out.size
   by_cases hlt:k<xs.length
   ·obtain ⟨x,hx⟩:∃ x,xs[k]? = some x:=⟨_,List.getElem?_eq_getElem hlt⟩
    have HVR:=Lib.hid (HV.out.sam (Sam.only HKR.out (fun g _ h q=>by omega)) (fun g _ h=>h))
    have HFR:Hid (Blk wr F 142 #[inF O F]):=by
     show wr.heap[F]? = _
     rw [HKR.out.block F HF0.out.lt (by omega)]; exact HF0.out
    have hfit:=(okIL_at HOK.out x (List.mem_of_getElem? hx)).fit
    have hle:=HLE.out (k+1)
    have HT:=Lib.hid (HTK.out k x hx)
    rw [HT.out,List.length_append,List.length_cons] at hle
    obtain ⟨g,o,vC,vP,vA,vT,vK,rfl,hg,hgB,-,-,⟨d0,d1,d2,d3,d4,d5,d6,d7,d8,d9⟩,-,⟨hC,-⟩,⟨hPP,-⟩,⟨hA,-⟩,hTT,hK⟩:=Lns.at_ HVR.out k x hx
    obtain ⟨kind,text,dest,title,id,cls,prs,args,cits,kids⟩:=x
    simp only [Inl.kind,Inl.text,Inl.dest,Inl.title,Inl.id,Inl.cls,Inl.prs,Inl.args,Inl.cits,Inl.kids] at d0 d1 d2 d3 d4 hC hPP hA hTT hK hfit HT hle
    obtain ⟨⟨f1,f2,f3,f4,f5,f6,f7,f8,f9⟩,f10⟩:=hfit
    have HC:=Lib.hid hC
    have HPP:=Lib.hid hPP
    have HA:=Lib.hid hA
    have HTT:=Lib.hid hTT
    have HKK:=Lib.hid hK
    have HKO:=Lib.hid f10
    obtain ⟨aC,cC,rfl,lC⟩:=hC.shape
    obtain ⟨aP,cP,rfl,lP⟩:=hPP.shape
    obtain ⟨aA,cA,rfl,lA⟩:=hA.shape
    obtain ⟨aT,cT,rfl,lT⟩:=hTT.form
    obtain ⟨aK,cK,rfl,lK⟩:=hK.form
    clear hC hPP hA hTT hK f10 hx HTK HLE HV HFIN
    have HI0:=Lib.hid (Blk.new wr 71 #[.int .i64 kind,.string (bs text),.string (bs dest),.string (bs title),.string (bs id),(.slice aC cls.length cC),(.slice aP prs.length cP),(.slice aA args.length cA),(.slice aT cits.length cT),(.slice aK kids.length cK)])
    have HKI:=Lib.hid (kept_alloc wr (.cells #[.int .i64 kind,.string (bs text),.string (bs dest),.string (bs title),.string (bs id),(.slice aC cls.length cC),(.slice aP prs.length cP),(.slice aA args.length cA),(.slice aT cits.length cT),(.slice aK kids.length cK)] 71))
    have HCA:=Lib.hid (fun vC vP w h1 h2=>tcat_any id vC vP cls prs w h1 h2 (by omega) (by omega))
    unfold CatP at HCA
    have HCS:=Lib.hid (fun v w h=>clnS v args w h (by omega))
    unfold ClnS at HCS
    have HCT:=Lib.hid (fun (S:Nat→Prop) v w h=>clnT (S:=S) v cits w h (by omega))
    unfold ClnT at HCT
    obtain ⟨I,HII⟩:∃ I,Hid (wr.heap.size=I):=⟨_,rfl⟩
    have hIz:wr.heap.size≤I:=by rw [HII.out]; exact Nat.le_refl _
    go_wp2_with fail
    generalize wr.alloc _=w0 at *
    rw [HII.out] at HI0 ⊢
    have hIw0:I<w0.heap.size:=HI0.out.lt
    clear d0 d1 d2 d3 d4 d5 d6 d7 d8
    refine (HCA.out _ _ _ (HC.out.kept HKI.out) (HPP.out.kept HKI.out)).mono ?_
    rintro e w1 ⟨vC1,vP1,rfl,⟨hc1,ic1⟩,⟨hp1,ip1⟩,hk1⟩
    obtain ⟨aC1,cC1,rfl,lC1⟩:=hc1.shape
    obtain ⟨aP1,cP1,rfl,lP1⟩:=hp1.shape
    have HC1:=Lib.hid hc1
    have HIC1:=Lib.hid ic1
    have HP1:=Lib.hid hp1
    have HIP1:=Lib.hid ip1
    have HI1:=Lib.hid (HI0.out.kept hk1)
    have HK1:=Lib.hid (HKI.out.trans hk1)
    have hz1:w0.heap.size≤w1.heap.size:=hk1.size
    clear hc1 ic1 hp1 ip1 hk1 HI0 HCA HC HPP
    go_wp2_with (refine wpList_store_part rfl 56 (.tmp 18) (.tmp 17) (by rfl) I 4 71 _ #[.string (bs id),.slice aC1 cls.length cC1,.slice aP1 prs.length cP1] (by rfl) (by rfl) HI1.out (by show 4+3≤10; omega) Tryz.sizeAt (by simp only [List.all_toArray,List.all_cons,List.all_nil]; rfl) ?_; intro w2 hb2 ho2; have HI2:Hid (Blk w2 I 71 #[.int .i64 kind,.string (bs text),.string (bs dest),.string (bs title),.string (bs id),(.slice aC1 cls.length cC1),(.slice aP1 prs.length cP1),(.slice aA args.length cA),(.slice aT cits.length cT),(.slice aK kids.length cK)]):=hb2; have HK2:=Lib.hid (HK1.out.trans' (ho2.below HK1.out.size (fun i e=>by rw [e]; exact hIz))); have HC2:=Lib.hid (HC1.out.onlS HIC1.out ho2 (fun g _ hs q=>by omega)); have HP2:=Lib.hid (HP1.out.onlS HIP1.out ho2 (fun g _ hs q=>by omega)); have hz2:=Nat.le_trans hz1 ho2.size; have b7:w2.cell? ⟨I,7,none⟩=some (.slice aA args.length cA):=HI2.out.cell 7 _ rfl; have zI:=HI2.out.lt; clear hb2 ho2 HI1 HK1 HC1 HP1)
    clear b7 zI
    refine (HCS.out _ _ (HA.out.kept HK2.out)).mono ?_
    rintro e w3 ⟨vA1,rfl,ha1,ia1,hk3⟩
    obtain ⟨aA1,cA1,rfl,lA1⟩:=ha1.shape
    have HA3:=Lib.hid ha1
    have HIA3:Hid (InB (fun g=>w0.heap.size≤g) (.slice aA1 args.length cA1) args.length):=ia1.mono (fun g _ _ q=>Nat.le_trans hz2 q)
    have HI3:=Lib.hid (HI2.out.kept hk3)
    have HK3:=Lib.hid (HK2.out.trans hk3)
    have HC3:=Lib.hid (HC2.out.kept hk3)
    have HP3:=Lib.hid (HP2.out.kept hk3)
    have hz3:w0.heap.size≤w3.heap.size:=Nat.le_trans hz2 hk3.size
    clear ha1 ia1 hk3 HI2 HK2 HC2 HP2 HCS HA
    have b7:w3.cell? ⟨I,7,none⟩=some (.slice aA args.length cA):=HI3.out.cell 7 _ rfl
    have b8:w3.cell? ⟨I,8,none⟩=some (.slice aT cits.length cT):=HI3.out.cell 8 _ rfl
    have f7:=HI3.out.free 7
    have zI:=HI3.out.lt
    have HI4:Hid (Blk (w3.setCell ⟨I,7,none⟩ (.slice aA1 args.length cA1)) I 71 #[.int .i64 kind,.string (bs text),.string (bs dest),.string (bs title),.string (bs id),(.slice aC1 cls.length cC1),(.slice aP1 prs.length cP1),(.slice aA1 args.length cA1),(.slice aT cits.length cT),(.slice aK kids.length cK)]):=HI3.out.set 7 _
    have HO4:=Lib.hid (Only.setCell (w:=w3) I 7 (.slice aA1 args.length cA1))
    have HK4:=Lib.hid (kept_set HK3.out I 7 (.slice aA1 args.length cA1) hIz)
    have HC4:=Lib.hid (HC3.out.onlS HIC1.out HO4.out (fun g _ hs q=>by omega))
    have HP4:=Lib.hid (HP3.out.onlS HIP1.out HO4.out (fun g _ hs q=>by omega))
    have HA4:=Lib.hid (HA3.out.onlS HIA3.out HO4.out (fun g _ hs q=>by omega))
    have hz4:w0.heap.size≤(w3.setCell ⟨I,7,none⟩ (.slice aA1 args.length cA1)).heap.size:=by rw [size_setCell]; exact hz3
    go_wp2_with fail
    generalize World.setCell _ _ _=w4 at *
    clear b7 b8 f7 zI HI3 HK3 HC3 HP3 HA3 HO4
    refine (HCT.out _ _ _ (HTT.out.sam (Sam.kept HK4.out) (fun _ _ q=>q))).mono ?_
    rintro e w5 ⟨vT1,rfl,ht1,hk5⟩
    obtain ⟨aT1,cT1,rfl,lT1⟩:=ht1.form
    have HT5:Hid (Cits (fun g=>w0.heap.size≤g) w5 (.slice aT1 cits.length cT1) cits):=ht1.sam (fun _ _ _=>rfl) (fun g _ q=>Nat.le_trans hz4 q)
    have HI5:=Lib.hid (HI4.out.kept hk5)
    have HK5:=Lib.hid (HK4.out.trans hk5)
    have HC5:=Lib.hid (HC4.out.kept hk5)
    have HP5:=Lib.hid (HP4.out.kept hk5)
    have HA5:=Lib.hid (HA4.out.kept hk5)
    clear ht1 hk5 HI4 HK4 HC4 HP4 HA4 HCT HTT
    have b8:w5.cell? ⟨I,8,none⟩=some (.slice aT cits.length cT):=HI5.out.cell 8 _ rfl
    have f8:=HI5.out.free 8
    have zI:=HI5.out.lt
    have HI6:Hid (Blk (w5.setCell ⟨I,8,none⟩ (.slice aT1 cits.length cT1)) I 71 #[.int .i64 kind,.string (bs text),.string (bs dest),.string (bs title),.string (bs id),(.slice aC1 cls.length cC1),(.slice aP1 prs.length cP1),(.slice aA1 args.length cA1),(.slice aT1 cits.length cT1),(.slice aK kids.length cK)]):=HI5.out.set 8 _
    have HO6:=Lib.hid (Only.setCell (w:=w5) I 8 (.slice aT1 cits.length cT1))
    have HK6:=Lib.hid (kept_set HK5.out I 8 (.slice aT1 cits.length cT1) hIz)
    have HC6:=Lib.hid (HC5.out.onlS HIC1.out HO6.out (fun g _ hs q=>by omega))
    have HP6:=Lib.hid (HP5.out.onlS HIP1.out HO6.out (fun g _ hs q=>by omega))
    have HA6:=Lib.hid (HA5.out.onlS HIA3.out HO6.out (fun g _ hs q=>by omega))
    have HT6:=Lib.hid (HT5.out.sam (S':=fun g=>w0.heap.size≤g) (Sam.only HO6.out (fun g _ hs q=>by omega)) (fun _ _ q=>q))
    go_wp2_with fail
    generalize World.setCell _ _ _=w6 at *
    clear b8 f8 zI HI5 HK5 HC5 HP5 HA5 HT5 HO6
    have HGR0:=Lib.hid HGR.out
    have HOO:=Lib.hid (HOR.out.kept HK6.out)
    have HFF:=Lib.hid (HFR.out.kept HK6.out)
    have HGG:=Lib.hid (HGR.out.kept (inlK N) HK6.out)
    have HKK6:=Lib.hid (HKK.out.kept HK6.out)
    clear HOR HFR HGR HKK
    obtain ⟨ar,cr,rfl,hcr,hmr⟩:=HGG.out.form
    have HCL:=Lib.hid (HKK6.out.kept (Kept.refl _))
    have hvO:(Value.slice ar (ys ++ deepL (xs.take k)).length cr).ownBlock≠some O:=fun q=>by have:=HGG.out.blk O q; omega
    have hvI:(Value.slice ar (ys ++ deepL (xs.take k)).length cr).ownBlock≠some I:=fun q=>by have:=HGR0.out.blk I q; omega
    have HY:Hid (InlK N (fun g=>A g∧(Value.slice ar (ys ++ deepL (xs.take k)).length cr).ownBlock≠some g) w6 ([.int .i64 kind,.string (bs text),.string (bs dest),.string (bs title),.string (bs id),(.slice aC1 cls.length cC1),(.slice aP1 prs.length cP1),(.slice aA1 args.length cA1),(.slice aT1 cits.length cT1),(.slice aK kids.length cK)]:List Value) (.mk kind text dest title id cls prs args cits kids)):=by
     have hin:∀ g,w0.heap.size≤g→A g∧(Value.slice ar (ys ++ deepL (xs.take k)).length cr).ownBlock≠some g:=fun g hg=>⟨hAb g (by omega),fun q=>by have:=HGR0.out.blk g q; omega⟩
     exact ⟨_,_,_,_,_,rfl,⟨HC6.out,HIC1.out.mono (fun g _ _ q=>hin g q)⟩,⟨HP6.out,HIP1.out.mono (fun g _ _ q=>hin g q)⟩,⟨HA6.out,HIA3.out.mono (fun g _ _ q=>hin g q)⟩,HT6.out.step (fun _ _ _=>rfl) (fun g _ q=>hin g q) (fun _ _ _ q=>q),(HKK6.out.sam (fun _ _ _=>rfl) (fun g _ q=>⟨hAB g q,fun q2=>by have:=HGG.out.blk g q2; omega⟩)).ups (by omega)⟩
    have hzl:(ys ++ deepL (xs.take k)).length+1≤1000001:=by rw [List.length_append]; omega
    refine push_region (A:=A) (N:=N) (O:=O) (I:=I) (base:=base) (xs:=ys ++ deepL (xs.take k)) (cells:=([.int .i64 kind,.string (bs text),.string (bs dest),.string (bs title),.string (bs id),(.slice aC1 cls.length cC1),(.slice aP1 prs.length cP1),(.slice aA1 args.length cA1),(.slice aT1 cits.length cT1),(.slice aK kids.length cK)]:List Value)) (x:=.mk kind text dest title id cls prs args cits kids) rfl rfl rfl rfl rfl rfl rfl rfl rfl rfl rfl rfl rfl rfl rfl rfl rfl rfl rfl rfl rfl rfl rfl rfl (by kernel_rfl) (by kernel_rfl) (by simp) (by simp) (by simp) (by simp) (by simp) (by simp) (by simp) (by simp) (by simp) (by simp) (by simp) (by simp) rfl rfl rfl HOO.out HI6.out HGG.out hAO hvO hvI (by omega) hOb (by omega) HY.out hzl ?_
    intro u0 u1 u2 u3 u4 u5 g7 c7 w7 hout7 hO7 hon7
    have HOUT:=Lib.hid hout7
    have HO7:=Lib.hid hO7
    have HON:Hid (Only (fun i=>i=O∨base≤i) w w7):=HKR.out.trans (((Only.of_kept HK6.out)).trans hon7)
    have HF7:Hid (Blk w7 F 142 #[inF O F]):=by
     show w7.heap[F]? = _
     rw [hon7.block F HFF.out.lt (by omega)]; exact HFF.out
    have HKS:Hid (Lns (fun g=>g<B) n w7 (.slice aK kids.length cK) kids):=HKK6.out.sam (Sam.only hon7 (fun g _ q r=>by omega)) (fun _ _ q=>q)
    have hw7:base≤w7.heap.size:=Nat.le_trans hb HON.out.size
    have t9:w7.cell? ⟨g,o+k * 10+9,none⟩=some (.slice aK kids.length cK):=by
     have hg6:g<w6.heap.size:=Nat.lt_of_lt_of_le hg HK6.out.size
     rw [hon7.cell g _ hg6 (by omega),HK6.out.cell (p:=⟨g,_,none⟩) hg]; exact d9
    have tF:w7.cell? ⟨F,0,none⟩=some (inF O F):=HF7.out.cell 0 _ rfl
    have zF:=HF7.out.lt
    have hl7:(ys ++ deepL (xs.take k) ++ [(Inl.mk kind text dest title id cls prs args cits kids)]).length+(deepL kids).length≤1000000:=by
     rw [List.length_append,List.length_append,List.length_singleton]; omega
    have heq:ys ++ deepL (xs.take k) ++ [(Inl.mk kind text dest title id cls prs args cits kids)] ++ deepL kids=ys ++ deepL (xs.take (k+1)):=by
     rw [HT.out]; simp
    have HEQ:=Lib.hid heq
    clear heq hout7 hO7 hon7 HOO HI6 HGG HY HIC1 HIP1 HIA3 HT6 HKK6 HC6 HP6 HA6 HF0 HO0 HCL HGR0 hvO hvI
    simp only [Act.put,List.setIfInBounds_toArray,List.set_cons_succ,List.set_cons_zero]
    go_wp2_with fail
    have t9':w7.drew.cell? ⟨g,o+k * 10+9,none⟩=some (.slice aK kids.length cK):=t9
    have tF':w7.drew.cell? ⟨F,0,none⟩=some (inF O F):=tF
    have HCALL:=Lib.hid (HIH.out _ _ _ _ _ (by omega) (HKS.out.kept (kept_drewN w7 1)) f9 HKO.out hw7 (HO7.out.kept (kept_drewN w7 1)) (HF7.out.kept (kept_drewN w7 1)) (HOUT.out.kept (inlK N) (kept_drewN w7 1)) hl7)
    clear HIH HKS HO7 HF7 HOUT
    go_region_with (go_at_call 76; refine HCALL.out.mono ?_; rintro e w8 ⟨rfl,v8,hO8,hout8,hon8⟩)
    all_goals
     have HO8:=Lib.hid hO8
     have HOUT8:Hid (OutG (InlK N) 10 A base 71 w8 v8 (ys ++ deepL (xs.take (k+1)))):=by rw [HEQ.out] at hout8; exact hout8
     have HON8:Hid (Only (fun g=>g=O∨base≤g) w w8):=HON.out.trans ((Only.of_kept (kept_drewN w7 1)).trans hon8)
     clear hO8 hout8 hon8 HEQ HCALL t9 t9' tF tF' zF HON
     go_wp2_with fail
     go_roundw
     case rel=>exact ⟨k+1,v8,by omega,by go_num,HO8.out,HOUT8.out,HON8.out⟩
     case measure=>simp [intOf]; omega
   ·obtain rfl:k=xs.length:=by omega
    have HF:=Lib.hid (HFIN.out vr wr HOR.out HGR.out HKR.out)
    clear HFIN HTK HLE HIH HOR HGR HKR HV HOK HO0 HF0 HG0
    go_wp2_with fail
    (try simp only [Exit.inBlock,Exit.then]); refine bodyPost_ret (results_none rfl _ _ _) rfl ?_
    exact HF.out
/-- What the second closure leaves. -/
abbrev blF (F G:Nat):Value:=.func (.func 80) #[] #[.pointer (some ⟨F,0,none⟩),.pointer (some ⟨G,0,none⟩)]
set_option maxRecDepth 100000 in
set_option maxHeartbeats 12800000 in
theorem inline2_any (A:Nat→Prop) (N B O F G base:Nat) (hAO:∀ g,A g→g≠O) (hAB:∀ g,g<B→A g) (hAb:∀ g,base≤g→A g) (hBO:B≤O) (hBF:B≤F) (hBG:B≤G) (hOF:O≠F) (hOG:O≠G) (hOb:O<base) (hFb:F<base) (hGb:G<base):∀ (m:Nat) (xs:List Blo) (v:Value) (ys:List Inl) (vO:Value) (w:World),Bls (fun g=>g<B) N m w v xs→xs.length≤1000000→okBL xs→base≤w.heap.size→Blk w O 57 #[vO]→Blk w F 142 #[inF O F]→Blk w G 146 #[blF F G]→OutG (InlK N) 10 A base 71 w vO ys→ys.length+(inlsL xs).length≤1000000 →
  Calls Tryz.prog 80 #[v,.pointer (some ⟨F,0,none⟩),.pointer (some ⟨G,0,none⟩)] w (In1P A N O F base ys (inlsL xs) w):=by
 intro m
 induction m with
 | zero =>
  intro xs v ys vO w hv hl hok hb hO hF hG hout hlen
  obtain rfl:=hv.no
  obtain ⟨a,c,rfl,hc⟩:=hv.form
  have HFIN:In1P A N O F base ys (inlsL []) w (.returned (.tuple #[])) w:=⟨rfl,vO,hO,by show OutG _ _ _ _ _ _ _ (ys ++ []); rw [List.append_nil]; exact hout,Only.of_kept (Kept.refl w)⟩
  clear hv hok hO hF hG hout hlen
  go_enter Tryz.func80,Tryz.ntmps80
  go_wp2_with fail
  go_loopw [7] (fun i wr=>i=.int .i64 0∧w=wr) (fun i _=>1)
  case atStart=>exact ⟨rfl,rfl⟩
  case round =>
   obtain ⟨rfl,rfl⟩:=hrel
   go_wp2_with fail
   (try simp only [Exit.inBlock,Exit.then]); refine bodyPost_ret (results_none rfl _ _ _) rfl ?_
   exact HFIN
 | succ m ih =>
  intro xs v ys vO w hv hl hok hb hO hF hG hout hlen
  have HV:=Lib.hid hv
  have HOK:=Lib.hid hok
  have HO0:=Lib.hid hO
  have HF0:=Lib.hid hF
  have HG00:=Lib.hid hG
  have HG0:Hid (OutG (InlK N) 10 A base 71 w vO (ys ++ inlsL (xs.take 0))):=by show OutG _ _ _ _ _ _ _ (ys ++ []); rw [List.append_nil]; exact hout
  have HFIN:Hid (∀ vO w',Blk w' O 57 #[vO]→OutG (InlK N) 10 A base 71 w' vO (ys ++ inlsL (xs.take xs.length))→Only (fun g=>g=O∨base≤g) w w'→In1P A N O F base ys (inlsL xs) w (.returned (.tuple #[])) w'):=fun vO w' h1 h2 h3=>⟨rfl,vO,h1,by rw [List.take_length] at h2; exact h2,h3⟩
  have HLE:=Lib.hid (inlsL_le xs)
  have HTK:Hid (∀ (k:Nat) (x:Blo),xs[k]? = some x→inlsL (xs.take (k+1))=inlsL (xs.take k) ++ (deepL x.line ++ inlsL x.kids)):=fun k x h=>by rw [inlsL_take h,inls1_eq]
  have HIH:=Lib.hid ih
  unfold In1P at HIH
  have HI1:=Lib.hid (fun xs v ys vO w=>inline1_any A N B O F base hAO hAB hAb hBO hBF hOF hOb hFb N xs v ys vO w (Nat.le_refl _))
  unfold In1P at HI1
  obtain ⟨a,c,rfl,hc⟩:=hv.form
  generalize hP:In1P A N O F base ys (inlsL xs) w=P at *
  clear hP hv hok hO hF hG hout ih
  go_enter Tryz.func80,Tryz.ntmps80
  go_wp2_with fail
  go_loopw [7] (fun i wr=>∃ (k:Nat) (vr:Value),k≤xs.length∧i=.int .i64 k∧Hid (Blk wr O 57 #[vr])∧Hid (OutG (InlK N) 10 A base 71 wr vr (ys ++ inlsL (xs.take k)))∧Hid (Only (fun g=>g=O∨base≤g) w wr)) (fun i _=>xs.length - (intOf i).toNat)
  case atStart=>exact ⟨0,vO,Nat.zero_le _,rfl,HO0.out,HG0.out,Only.of_kept (Kept.refl w)⟩
  case round =>
   obtain ⟨k,vr,hk,rfl,HOR,HGR,HKR⟩:=hrel
   have hbr:base≤wr.heap.size:=Nat.le_trans hb HKR.out.size
   by_cases hlt:k<xs.length
   ·obtain ⟨x,hx⟩:∃ x,xs[k]? = some x:=⟨_,List.getElem?_eq_getElem hlt⟩
    have HVR:=Lib.hid (HV.out.sam (Sam.only HKR.out (fun g _ h q=>by omega)) (fun g _ h=>h))
    have HFR:Hid (Blk wr F 142 #[inF O F]):=by
     show wr.heap[F]? = _
     rw [HKR.out.block F HF0.out.lt (by omega)]; exact HF0.out
    have HGGR:Hid (Blk wr G 146 #[blF F G]):=by
     show wr.heap[G]? = _
     rw [HKR.out.block G HG00.out.lt (by omega)]; exact HG00.out
    have hfit:=(okBL_at HOK.out x (List.mem_of_getElem? hx)).fit
    have hle:=HLE.out (k+1)
    have HT:=Lib.hid (HTK.out k x hx)
    rw [HT.out,List.length_append,List.length_append] at hle
    obtain ⟨g,o,vC,vP,vL,vK,rfl,hg,hgB,-,-,⟨-,-,-,-,-,-,-,-,-,d9,d10⟩,-,-,-,hL,hK⟩:=Bls.at_ HVR.out k x hx
    obtain ⟨kind,level,info,text,dest,title,id,cls,prs,line,kids⟩:=x
    simp only [Blo.line,Blo.kids] at hL hK hfit HT hle
    obtain ⟨⟨-,-,-,-,-,-,-,f8,f9⟩,f10,f11⟩:=hfit
    obtain ⟨aL,cL,rfl,lL⟩:=hL.form
    obtain ⟨aK,cK,rfl,lK⟩:=hK.form
    have HLL:=Lib.hid hL
    have HKK:=Lib.hid hK
    have HKO:=Lib.hid f10
    have HKO2:=Lib.hid f11
    have d9':wr.drew.cell? ⟨g,o+k * 11+9,none⟩=some (.slice aL line.length cL):=d9
    have tF:wr.cell? ⟨F,0,none⟩=some (inF O F):=HFR.out.cell 0 _ rfl
    have tF':wr.drew.cell? ⟨F,0,none⟩=some (inF O F):=HFR.out.cell 0 _ rfl
    have hl1:(ys ++ inlsL (xs.take k)).length+(deepL line).length≤1000000:=by rw [List.length_append]; omega
    have HCALL:=Lib.hid (HI1.out _ _ _ _ _ (HLL.out.kept (kept_drewN wr 1)) f8 HKO.out hbr (HOR.out.kept (kept_drewN wr 1)) (HFR.out.kept (kept_drewN wr 1)) (HGR.out.kept (inlK N) (kept_drewN wr 1)) hl1)
    clear hL hK f10 f11 hx HTK HLE HFIN HI1
    go_wp2_with fail
    go_region_with (go_at_call 76; refine HCALL.out.mono ?_; rintro e w7 ⟨rfl,v7,hO7,hout7,hon7⟩)
    all_goals
     have HON:Hid (Only (fun i=>i=O∨base≤i) w w7):=HKR.out.trans ((Only.of_kept (kept_drewN wr 1)).trans hon7)
     have HO7:=Lib.hid (hO7.kept (kept_drewN w7 1))
     have hF7:Blk w7 F 142 #[inF O F]:=by
      show w7.heap[F]? = _
      rw [hon7.block F HFR.out.lt (by omega)]; exact HFR.out
     have hG7:Blk w7 G 146 #[blF F G]:=by
      show w7.heap[G]? = _
      rw [hon7.block G HGGR.out.lt (by omega)]; exact HGGR.out
     have hKS:Bls (fun g=>g<B) N m w7.drew (.slice aK kids.length cK) kids:=((HKK.out.kept (kept_drewN wr 1)).sam (Sam.only hon7 (fun g _ q r=>by omega)) (fun _ _ q=>q)).kept (kept_drewN w7 1)
     have hw7:base≤w7.drew.heap.size:=Nat.le_trans hb HON.out.size
     have t10:w7.cell? ⟨g,o+k * 11+10,none⟩=some (.slice aK kids.length cK):=by
      rw [hon7.cell g _ hg (by omega)]; exact d10
     have t10':w7.drew.cell? ⟨g,o+k * 11+10,none⟩=some (.slice aK kids.length cK):=t10
     have tG:w7.cell? ⟨G,0,none⟩=some (blF F G):=hG7.cell 0 _ rfl
     have tG':w7.drew.cell? ⟨G,0,none⟩=some (blF F G):=hG7.cell 0 _ rfl
     have hl7:(ys ++ inlsL (xs.take k) ++ deepL line).length+(inlsL kids).length≤1000000:=by
      rw [List.length_append,List.length_append]; omega
     have HCALL2:=Lib.hid (HIH.out _ _ _ _ _ hKS f9 HKO2.out hw7 HO7.out (hF7.kept (kept_drewN w7 1)) (hG7.kept (kept_drewN w7 1)) (hout7.kept (inlK N) (kept_drewN w7 1)) hl7)
     have heq:ys ++ inlsL (xs.take k) ++ deepL line ++ inlsL kids=ys ++ inlsL (xs.take (k+1)):=by
      rw [HT.out]; simp
     have HEQ:=Lib.hid heq
     clear heq hO7 hout7 hon7 hF7 hG7 hKS HCALL d9' tF tF' HO7 HIH HOR HFR HGR HGGR HLL HKK HKO HKO2 HO0 HF0 HG00 HG0 HVR HV HT
     go_wp2_with fail
     go_region_with (go_at_call 80; refine HCALL2.out.mono ?_; rintro e w8 ⟨rfl,v8,hO8,hout8,hon8⟩)
    all_goals
     have HO8:=Lib.hid hO8
     have HOUT8:Hid (OutG (InlK N) 10 A base 71 w8 v8 (ys ++ inlsL (xs.take (k+1)))):=by rw [HEQ.out] at hout8; exact hout8
     have HON8:Hid (Only (fun g=>g=O∨base≤g) w w8):=HON.out.trans ((Only.of_kept (kept_drewN w7 1)).trans hon8)
     clear hO8 hout8 hon8 HEQ HCALL2 t10 t10' tG tG' HON
     go_wp2_with fail
     go_roundw
     case rel=>exact ⟨k+1,v8,by omega,by go_num,HO8.out,HOUT8.out,HON8.out⟩
     case measure=>simp [intOf]; omega
   ·obtain rfl:k=xs.length:=by omega
    have HF:=Lib.hid (HFIN.out vr wr HOR.out HGR.out HKR.out)
    clear HFIN HTK HLE HIH HOR HGR HKR HV HOK HO0 HF0 HG0 HI1
    go_wp2_with fail
    (try simp only [Exit.inBlock,Exit.then]); refine bodyPost_ret (results_none rfl _ _ _) rfl ?_
    exact HF.out
end Go.Proofs.YtmcoomlkbgiboaaGreatDoor
