/- publisherref04.Inlines: the inlines of a document in one row. Conditions: lengths. -/
import Derived.Test.YtmcoomlkbgiboaaGreatDoorK41
import Derived.Test.YtmcoomlkbgiboaaGreatDoorK12
import Derived.Test.YtmcoomlkbgiboaaGreatDoorK39
import Derived.Test.YtmcoomlkbgiboaaGreatDoorK30
import Derived.Test.YtmcoomlkbgiboaaGreatDoorK14
import Derived.Test.YtmcoomlkbgiboaaGreatDoorK40
import Derived.Test.YtmcoomlkbgiboaaGreatDoorK01
import Derived.Test.YtmcoomlkbgiboaaGreatDoorRows
import Derived.ProofKit
import Derived.OpenShut
import Derived.Carry
import Derived.ChangeSame
import Derived.Deep.DeepHandedRow
import Derived.Lib.LaidTab
import Derived.Shelf.Vars

set_option linter.all false
namespace Go.Proofs.YtmcoomlkbgiboaaGreatDoor
open Go.RowKit

theorem flat_snoc {α β:Type} (f:α→List β) {xs:List α} {k:Nat} {x:α} (h:xs[k]? = some x):(xs.take (k+1)).flatMap f=(xs.take k).flatMap f ++ f x:=by
 rw [take_snoc h,List.flatMap_append]; simp
theorem flat_le {α β:Type} (f:α→List β) {xs:List α} {k:Nat} {x:α} (h:xs[k]? = some x):((xs.take k).flatMap f).length+(f x).length≤(xs.flatMap f).length:=by
 have e:xs.flatMap f=(xs.take (k+1)).flatMap f ++ (xs.drop (k+1)).flatMap f:=by rw [← List.flatMap_append,List.take_append_drop]
 rw [e,flat_snoc f h]
 simp only [List.length_append]; omega
def RiP (N:Nat) (is:List Inl) (w:World) (e:Ending) (w':World):Prop:=∃ v,e=.returned v∧Lns (fun g=>g<w'.heap.size) (N+1) w' v is∧Kept w w'
set_option maxRecDepth 100000 in
set_option maxHeartbeats 6400000 in
theorem rin4_any (N n:Nat) (xs:List Blo) (v:Value) (w:World) (hv:Bls (fun g=>g<w.heap.size) N n w v xs) (hl1:(listL xs).length≤1000000000) (hl2:(inlsL xs).length≤1000000000) (hx:xs.length≤1000000000) (hln:∀ b∈listL xs,b.line.length≤1000000000) :
  Calls Tryz.prog 32 #[v] w (RiP N (inlsL xs) w):=by
 have HLS:=Lib.hid (rlist_any (fun g=>g<w.heap.size) N n xs v w (fun g h=>h) hv (by omega) (by omega))
 unfold RlP at HLS
 rw [inlsL_list] at hl2 ⊢
 have HLN:=Lib.hid hln
 obtain ⟨a,c,rfl,hc⟩:=hv.form
 obtain ⟨ys,HYS⟩:∃ ys,Hid (listL xs=ys):=⟨_,rfl⟩
 rw [HYS.out] at HLS hl1 hl2 HLN ⊢
 have HLE:Hid (∀ k x,ys[k]? = some x→((ys.take k).flatMap fun b=>deepL b.line).length+(deepL x.line).length≤1000000000):=fun k x h=>Nat.le_trans (flat_le (fun b=>deepL b.line) h) hl2
 have HFIN:Hid (∀ B v w',OutG (InlK N) 10 (fun _=>True) B 71 w' v ((ys.take ys.length).flatMap fun b=>deepL b.line)→Kept w w'→RiP N (ys.flatMap fun b=>deepL b.line) w (.returned v) w'):=fun B v w' h1 h2=>⟨v,rfl,by
  rw [List.take_length] at h1
  exact (show Lns (fun _=>True) (N+1) w' v _ from OutG.row (S:=fun _=>True) (inlK N) h1 (fun g _ _=>trivial) (fun g h=>trivial)).mono (fun g h _=>h),h2⟩
 obtain ⟨i0,hi,hz0,hz1,hz2⟩:=info_parts Tryz.infoIn5
 generalize hP:RiP N (ys.flatMap fun b=>deepL b.line) w=P at *
 clear hP hv hl2 hln HYS
 go_enter Tryz.func32,Tryz.ntmps32
 go_wp2_with fail
 refine HLS.out.mono ?_
 rintro e w1 ⟨v1,rfl,hb1,hk1⟩
 obtain ⟨a1,c1,rfl,l1⟩:=hb1.form
 have HV:Hid (Bls (fun g=>g<w1.heap.size) N (n+1) w1 (.slice a1 ys.length c1) ys):=(hb1.mono (fun g h _=>h)).up
 have HK1:=Lib.hid hk1
 obtain ⟨B,HB⟩:∃ B,Hid (w1.heap.size=B):=⟨_,rfl⟩
 rw [HB.out] at HV
 clear hb1 hk1 HLS
 go_wp2_with fail
 go_loopw [3,5] (fun o i wr=>∃ (k:Nat),k≤ys.length∧i=.int .i64 k∧Hid (OutG (InlK N) 10 (fun _=>True) B 71 wr o ((ys.take k).flatMap fun b=>deepL b.line))∧Hid (Kept w1 wr)) (fun _ i _=>ys.length - (intOf i).toNat)
 case atStart=>exact ⟨0,Nat.zero_le _,rfl,OutG.nil _ _ _ _ _ _,Kept.refl w1⟩
 case round =>
  obtain ⟨k,hk,rfl,HGR,HKR⟩:=hrel
  by_cases hlt:k<ys.length
  ·obtain ⟨x,hx⟩:∃ x,ys[k]? = some x:=⟨_,List.getElem?_eq_getElem hlt⟩
   have hle:=HLE.out k x hx
   have hxl:=HLN.out x (List.mem_of_getElem? hx)
   have HT:=Lib.hid (flat_snoc (fun b=>deepL b.line) hx)
   obtain ⟨g,o,vC,vP,vL,vK,rfl,hgg,hgS,-,-,-,hcc,-,-,hL,-⟩:=Bls.at_ (HV.out.kept HKR.out) k x hx
   obtain ⟨aL,cL,rfl,lL⟩:=hL.form
   have d9:=hcc 9 _ rfl
   obtain ⟨ar,cr,rfl,hcr,hmr⟩:=HGR.out.form
   obtain ⟨os,HOS⟩:∃ os,Hid (((ys.take k).flatMap fun b=>deepL b.line)=os):=⟨_,rfl⟩
   rw [HOS.out] at HGR HT hle
   rw [HOS.out]
   have hwr:B≤wr.heap.size:=by have h:=HKR.out.size; have h2:=HB.out; omega
   have HIX:=Lib.hid (rdeep_any (fun g=>g<B) N x.line (.slice aL x.line.length cL) wr (fun g q=>by omega) hL (by omega) (by omega))
   unfold RdP at HIX
   clear hx hcc hL hgS
   go_wp2_with fail
   refine HIX.out.mono ?_
   rintro e w3 ⟨v3,rfl,hb3,hk3⟩
   obtain ⟨a3,c3,rfl,l3⟩:=hb3.form
   have HO3:=Lib.hid (HGR.out.kept (inlK N) hk3)
   have HK3:=Lib.hid (HKR.out.trans hk3)
   have HBR:Hid (RowR (fun g=>g<B∨wr.heap.size≤g) 10 (InlK N (fun g=>g<B∨wr.heap.size≤g) w3) w3 (.slice a3 (deepL x.line).length c3) (deepL x.line)):=hb3.up
   have HSS:Hid (∀ i,i<w3.heap.size→(i<B∨wr.heap.size≤i)→True∧(Value.slice ar os.length cr).ownBlock≠some i):=fun i _ q=>⟨trivial,fun r=>by have h1:=(HGR.out.blk i r); omega⟩
   have hbz:B≤w3.heap.size:=by have h:=HK3.out.size; have h2:=HB.out; omega
   clear hb3 hk3 HIX d9 HGR
   go_wp2_with (at_builtin; refine holdQ ?_)
   refine Lib.hid ?_
   refine wpList_append_row (inlK N) rfl (.tmp 14) (.tmp 20) 57 rfl i0 _ 192 Tryz.underlying57 hi hz0 hz1 hz2 rfl (by omega) (by rfl) HO3.out _ (by rfl) HBR.out HSS.out (by unfold maxLen; omega) (by omega) hbz ?_
   intro v7 w17 hout9 hgrow9
   obtain ⟨a7,c7,rfl,-,-⟩:=hout9.form
   have HO7:Hid (OutG (InlK N) 10 (fun _=>True) B 71 w17 (.slice a7 (os ++ deepL x.line).length c7) ((ys.take (k+1)).flatMap fun b=>deepL b.line)):=by rw [HT.out]; exact hout9
   have HK17:Hid (Kept w1 w17):=HK3.out.trans' ((Only.grown hgrow9).below HK3.out.size (fun i q=>by have h:=(HO3.out.blk i q.symm).1; have h2:=HB.out; omega))
   clear hout9 hgrow9 HO3 HBR HSS HK3
   go_wp2_with fail
   go_roundw
   case rel=>exact ⟨k+1,by omega,by go_num,(by have h:=HO7.out; rw [List.length_append] at h; exact h),HK17.out⟩
   case measure=>simp [intOf]; omega
  ·have hkx:k=ys.length:=by omega
   subst hkx
   have HE:=Lib.hid (HFIN.out B _ wr HGR.out (HK1.out.trans HKR.out))
   obtain ⟨ar,cr,rfl,hcr,hmr⟩:=HGR.out.form
   clear HGR HKR HFIN
   go_wp2_with fail
   (try go_ret)
   exact HE.out
end Go.Proofs.YtmcoomlkbgiboaaGreatDoor

/- publisherref32.Keys: the keys that a document cites. Conditions: lengths. -/
set_option linter.all false
namespace Go.Proofs.YtmcoomlkbgiboaaGreatDoor
open Go.RowKit

theorem cit_at {S:Nat→Prop} {N:Nat} {w:World} {a:Option Addr} {n c:Nat} {ds:List Inl} {k j:Nat} {x:Inl} {ct:Cit} (h:Lns S (N+1) w (.slice a n c) ds) (hx:ds[k]? = some x) (hc:x.cits[j]? = some ct) :
  ∃ g o g' o' cT,a=some ⟨g,o,none⟩∧w.cell? ⟨g,o+k * 10,none⟩=some (.int .i64 x.kind)∧w.cell? ⟨g,o+k * 10+8,none⟩=some (.slice (some ⟨g',o',none⟩) x.cits.length cT)∧w.cell? ⟨g',o'+j * 4,none⟩=some (.string (bs ct.key))∧x.cits.length≤cT:=by
 obtain ⟨g,o,vC,vP,vA,vT,vK,rfl,-,-,-,-,⟨d0,-,-,-,-,-,-,-,d8,-⟩,-,-,-,-,hT,-⟩:=Lns.at_ h k x hx
 obtain ⟨aT,cT,rfl,lT⟩:=hT.form
 obtain ⟨g',o',cs,rfl,-,-,-,hcs,hcc,-,-⟩:=RowR.at_ hT j ct hc
 rw [hcc] at hcs
 exact ⟨g,o,g',o',cT,rfl,d0,d8,by simpa using hcs 0 _ rfl,lT⟩
theorem cit_no {S:Nat→Prop} {N:Nat} {w:World} {a:Option Addr} {n c:Nat} {ds:List Inl} {k:Nat} {x:Inl} (h:Lns S (N+1) w (.slice a n c) ds) (hx:ds[k]? = some x) :
  ∃ g o aT cT,a=some ⟨g,o,none⟩∧w.cell? ⟨g,o+k * 10,none⟩=some (.int .i64 x.kind)∧w.cell? ⟨g,o+k * 10+8,none⟩=some (.slice aT x.cits.length cT)∧x.cits.length≤cT:=by
 obtain ⟨g,o,vC,vP,vA,vT,vK,rfl,-,-,-,-,⟨d0,-,-,-,-,-,-,-,d8,-⟩,-,-,-,-,hT,-⟩:=Lns.at_ h k x hx
 obtain ⟨aT,cT,rfl,lT⟩:=hT.form
 exact ⟨g,o,aT,cT,rfl,d0,d8,lT⟩
/-- The citations that count. -/
def citsOf (x:Inl):List Cit:=if x.kind=13 then x.cits else []
theorem citsOf_keys (x:Inl):citKeys x=(citsOf x).map (·.key):=by
 unfold citKeys citsOf; split <;> rfl
set_option maxRecDepth 100000 in
set_option maxHeartbeats 6400000 in
theorem rkeys32_any (N n:Nat) (aM:Option Addr) (nM cM:Nat) (v:Value) (xs:List Blo) (w:World) (hv:Bls (fun g=>g<w.heap.size) N n w v xs) (hl:xs.length≤1000000) (hls:(listL xs).length≤1000000) (hn:(inlsL xs).length≤1000000) (hln:∀ b∈listL xs,b.line.length≤1000000) (hx:∀ x∈inlsL xs,x.cits.length≤1000000) (hks:((inlsL xs).flatMap citKeys).length≤1000000) :
  Calls Tryz.prog 13 #[.agg #[.slice aM nM cM,v]] w (CiKP (keysD xs) w):=by
 have HX:=Lib.hid hx
 obtain ⟨a,c,rfl,hc⟩:=hv.form
 obtain ⟨i0,hi,hz0,hz1,hz2⟩:=info_parts Tryz.infoStr
 have hk0:=kept_alloc w (.cells #[.slice aM nM cM,.slice a xs.length c] 25)
 have HK0:=Lib.hid hk0
 have HDF:=Lib.hid (rin4_any N n xs (.slice a xs.length c) _ ((hv.kept hk0).mono (fun g h _=>h)) (by omega) (by omega) (by omega) (fun b hb=>by have:=hln b hb; omega))
 unfold RiP at HDF
 have HFIN:Hid (∀ v w',Strs w' v (keysI (inlsL xs))→Kept w w'→CiKP (keysD xs) w (.returned v) w'):=fun v w' h1 h2=>⟨v,rfl,h1,h2⟩
 generalize CiKP (keysD xs) w=P at *
 obtain ⟨ds,HDS⟩:∃ ds,Hid (inlsL xs=ds):=⟨_,rfl⟩
 rw [HDS.out] at HX HDF hn hks HFIN
 have HLD:Hid (∀ k x,ds[k]? = some x→((ds.take k).flatMap citKeys).length+(citKeys x).length≤1000000):=fun k x h=>Nat.le_trans (keys_led h) hks
 unfold keysI at HFIN
 clear hx hv hks hk0 hln hls
 go_enter Tryz.func13,Tryz.ntmps13
 go_wp2_with fail
 refine HDF.out.mono ?_
 rintro e w1 ⟨v1,rfl,hR,hk1⟩
 have HK1:=Lib.hid (HK0.out.trans hk1)
 have HR:=Lib.hid hR
 obtain ⟨a1,c1,rfl,hc1⟩:=hR.form
 obtain ⟨B,HB⟩:∃ B,Hid (w1.heap.size=B):=⟨_,rfl⟩
 clear hR hk1 HDF HK0
 go_wp2_with fail
 go_loopw [3,5] (fun o i wr=>∃ (k:Nat),k≤ds.length∧i=.int .i64 k∧Hid (OutG StrK 1 (fun _=>False) B 9 wr o (keysL ((ds.take k).flatMap citKeys)))∧Hid (Kept w1 wr)) (fun _ i _=>ds.length - (intOf i).toNat)
 case atStart=>exact ⟨0,Nat.zero_le _,rfl,OutG.nil _ _ _ _ _ _,Kept.refl w1⟩
 case round =>
  obtain ⟨k,hk,rfl,HGR,HKR⟩:=hrel
  by_cases hlt:k<ds.length
  ·obtain ⟨x,hx⟩:∃ x,ds[k]? = some x:=⟨_,List.getElem?_eq_getElem hlt⟩
   have hcl:=HX.out x (List.mem_of_getElem? hx)
   have HT:=Lib.hid (keys_tk hx)
   have HLK:=Lib.hid (HLD.out k x hx)
   obtain ⟨pre,HPR⟩:∃ us,Hid ((ds.take k).flatMap citKeys=us):=⟨_,rfl⟩
   rw [HPR.out] at HGR HT HLK
   rw [citsOf_keys] at HT HLK
   rw [List.length_map] at HLK
   have hlk:=HLK.out
   have HXX:=Lib.hid hx
   clear hx
   obtain ⟨ar0,cr0,rfl,-,-⟩:=HGR.out.form
   go_wp2_with fail
   obtain ⟨wo,rfl⟩:∃ wo:World,wo=wr:=⟨_,rfl⟩
   go_loopw [3,6] (fun o i wx=>∃ (j:Nat),j≤(citsOf x).length∧i=.int .i64 j∧Hid (OutG StrK 1 (fun _=>False) B 9 wx o (keysL (pre ++ ((citsOf x).take j).map (·.key))))∧Hid (Kept w1 wx)) (fun _ i _=>(citsOf x).length - (intOf i).toNat)
   case atStart=>exact ⟨0,Nat.zero_le _,rfl,(by rw [List.take_zero,List.map_nil,List.append_nil]; exact HGR.out),HKR.out⟩
   case round =>
    clear HGR HKR
    obtain ⟨j,hj,rfl,HGR,HKX⟩:=hrel
    by_cases hlt2:j<(citsOf x).length
    ·have h13:x.kind=13:=by
      by_cases q:x.kind=13
      ·exact q
      ·unfold citsOf at hlt2; rw [if_neg q] at hlt2; simp at hlt2
     have hcx:citsOf x=x.cits:=if_pos h13
     obtain ⟨ct,hct0⟩:∃ x',(citsOf x)[j]? = some x':=⟨_,List.getElem?_eq_getElem hlt2⟩
     have HT2:=Lib.hid (keys_next (pre:=pre) hct0)
     have hlt3:j<x.cits.length:=by rw [hcx] at hlt2; exact hlt2
     rw [hcx] at hct0
     have HCT:=Lib.hid hct0
     have hul:(keysL (pre ++ ((citsOf x).take j).map (·.key))).length≤1000000:=by
      have:=keysL_len (pre ++ ((citsOf x).take j).map (·.key))
      rw [List.length_append,List.length_map,List.length_take] at this
      omega
     obtain ⟨us,HUS⟩:∃ us,Hid (keysL (pre ++ ((citsOf x).take j).map (·.key))=us):=⟨_,rfl⟩
     rw [HUS.out] at HGR HT2 hul
     obtain ⟨g,o,g',o',cT,rfl,d0,d8,e0,lT⟩:=cit_at (HR.out.kept HKX.out) HXX.out hct0
     rw [h13] at d0
     have HSU:=Lib.hid (Strs.outO HGR.out)
     obtain ⟨ar,cr,rfl,hcr,hmr⟩:=HGR.out.form
     have HHS:=Lib.hid (rhas32_any (.slice ar us.length cr) us ct.key wr HSU.out hul)
     have HH13:=Lib.hid h13
     clear hct0 HSU hcx h13
     go_wp2_with fail
     refine HHS.out.mono ?_
     rintro e w3 ⟨rfl,hk3⟩
     have HK3:=Lib.hid (HKX.out.trans hk3)
     have HG3:=Lib.hid (HGR.out.kept strK hk3)
     clear d0 d8 e0 lT HHS hk3
     cases hct:us.contains ct.key with
     | true =>
      have HT3:=HT2.out
      rw [keyStep_in hct] at HT3
      rw [← HT3] at HG3
      have HG4:=Lib.hid HG3.out
      rw [HT3] at HG4
      clear HGR HKX HUS HT2 hct
      go_wp2_with fail
      go_roundw
      case rel=>exact ⟨j+1,by omega,by go_num,(by rw [HT3]; exact HG4.out),HK3.out⟩
      case measure=>simp [intOf]; omega
     | false =>
      have HT3:=HT2.out
      rw [keyStep_no hct] at HT3
      obtain ⟨g2,o2,g'2,o'2,cT2,ha2,d0,d8,e0,lT⟩:=cit_at (HR.out.kept HK3.out) HXX.out HCT.out
      cases ha2
      have HROW:=Lib.hid (Blk.new w3 9 #[.string (bs ct.key)])
      have HK6:=Lib.hid (kept_alloc w3 (.cells #[.string (bs ct.key)] 9))
      have HG6:=Lib.hid (HG3.out.kept strK HK6.out)
      have hb6:B≤(w3.alloc (.cells #[.string (bs ct.key)] 9)).heap.size:=by
       have:=HK3.out.size; have:=HK6.out.size; have:=HB.out; omega
      clear hct
      go_wp2_with (at_builtin; refine holdC ?_)
      refine Lib.hid ?_
      refine wpList_append_out strK rfl (.tmp 46) (.tmp 56) 29 rfl i0 _ 16 Tryz.underlying29 hi hz0 hz1 hz2 rfl (by omega) (by rfl) HG6.out _ [.string (bs ct.key)] ct.key (by rfl) (fun j u hu=>HROW.out.cell j u (by rw [← Array.getElem?_toList]; exact hu)) rfl rfl (by unfold maxLen; omega) (by omega) hb6 _ rfl ?_
      intro g7 c7' w7 hout7 hgrow7 hat7 hlt7
      have HOUT8:Hid (OutG StrK 1 (fun _=>False) B 9 w7 (.slice (some ⟨g7,0,none⟩) (us.length+1) c7') (keysL (pre ++ ((citsOf x).take (j+1)).map (·.key)))):=by rw [HT3]; exact hout7
      have HK7:Hid (Kept w1 w7):=(HK3.out.trans HK6.out).trans' ((Only.grown hgrow7).below (HK3.out.trans HK6.out).size (fun i q=>by have:=(HG6.out.blk i q.symm).1; have:=HB.out; omega))
      clear hout7 hgrow7 hat7 hlt7 HG6 HK6 HROW HT2 HT3 HUS HGR HKX HK3 HG3 d0 d8 e0 lT
      go_wp2_with fail
      go_roundw
      case rel=>exact ⟨j+1,by omega,by go_num,HOUT8.out,HK7.out⟩
      case measure=>simp [intOf]; omega
    ·obtain rfl:j=(citsOf x).length:=by omega
     rw [List.take_length,← HT.out] at HGR
     obtain ⟨g,o,aT,cT,rfl,d0,d8,lT⟩:=cit_no (HR.out.kept HKX.out) HXX.out
     obtain ⟨ar,cr,rfl,hcr,hmr⟩:=HGR.out.form
     by_cases h13:x.kind=13
     ·rw [h13] at d0
      have hcx:citsOf x=x.cits:=if_pos h13
      have hcxl:(citsOf x).length=x.cits.length:=by rw [hcx]
      have HH13:=Lib.hid h13
      rw [hcxl]
      clear hcx h13 hlt2
      go_wp2_with fail
      go_roundw
      case rel=>exact ⟨k+1,by omega,by go_num,HGR.out,HKX.out⟩
      case measure=>simp [intOf]; omega
     ·have hcx:citsOf x=[]:=if_neg h13
      have hcxl:(citsOf x).length=0:=by rw [hcx]; rfl
      rw [hcxl]
      clear hcx hlt2
      by_cases h0:x.cits.length=0
      ·rw [h0] at d8
       go_wp2_with fail
       go_roundw
       case rel=>exact ⟨k+1,by omega,by go_num,HGR.out,HKX.out⟩
       case measure=>simp [intOf]; omega
      ·have h0':0<x.cits.length:=by omega
       go_wp2_with fail
       go_roundw
       case rel=>exact ⟨k+1,by omega,by go_num,HGR.out,HKX.out⟩
       case measure=>simp [intOf]; omega
  ·obtain rfl:k=ds.length:=by omega
   rw [List.take_length] at HGR
   obtain ⟨ar,cr,rfl,hcr,hmr⟩:=HGR.out.form
   have HF:=Lib.hid (HFIN.out _ wr (Strs.outO HGR.out) (HK1.out.trans HKR.out))
   clear HGR HKR HR
   go_wp2_with fail
   (try go_ret)
   exact HF.out
end Go.Proofs.YtmcoomlkbgiboaaGreatDoor

/- The law CiteKeys. Conditions: lengths that a machine can tell; the listed variables. -/
set_option linter.all false
namespace Go.Proofs.YtmcoomlkbgiboaaGreatDoor
open Go.RowKit

theorem keyF_len:∀ (l acc:List Bs),(l.foldl keyStep acc).length≤acc.length+l.length
 | [],acc=>by simp
 | k :: l,acc=>by
  have h1:=keyF_len l (keyStep acc k)
  have h2:(keyStep acc k).length≤acc.length+1:=by
   unfold keyStep
   split
   ·omega
   ·simp
  rw [List.foldl_cons,List.length_cons]; omega
theorem keysI_len (xs:List Inl) (h:∀ x∈xs,x.cits.length≤9):(keysI xs).length≤9 * xs.length:=by
 have h1:=keys_len xs h
 have h2:=keyF_len (xs.flatMap citKeys) []
 unfold keysI keysL
 rw [List.length_nil,Nat.zero_add] at h2
 omega
set_option maxRecDepth 100000 in
set_option maxHeartbeats 12800000 in
theorem lcikeys_any (N n:Nat) (hN:2≤N) (vM vB:Value) (ms:List Pr) (xs:List Blo) (w:World) (hen:EnvC w) (hM:Prs w vM ms) (hB:Bls (fun g=>g<w.heap.size) N n w vB xs) (hd:FitD0 ms xs) :
  Calls Tryz.prog 3 #[.agg #[vM,vB]] w fun e w'=>e=.returned (.bool true)∧Kept w w':=by
 obtain ⟨aM,cM,rfl,lM⟩:=hM.shape
 obtain ⟨aB,cB,rfl,lB⟩:=hB.form
 have HK0:=Lib.hid (kept_alloc w (.cells #[.slice aM ms.length cM,.slice aB xs.length cB] 25))
 have HD0:=Lib.hid (Blk.new w 25 #[.slice aM ms.length cM,.slice aB xs.length cB])
 have HAW:=Lib.hid (fun w' (k:Kept w w')=>awake32_any w' (hen.kept k))
 have HBL:Hid (∀ w',Kept w w'→Bls (fun g=>g<w'.heap.size) N n w' (.slice aB xs.length cB) xs):=fun w' k=>hB.sam (Sam.kept k) (fun g hg _=>Nat.lt_of_lt_of_le hg k.size)
 have HSM:=Lib.hid (fun w' (k:Kept w w')=>smdocx_any _ N n _ _ ms xs w' (hM.kept k) (HBL.out w' k) hd)
 unfold SmlX at HSM
 clear hen hM hB hd
 by_cases hs:smlE N n ms xs
 ·have HS1:Hid (∀ w',Kept w w'→Calls Tryz.prog 9 #[.agg #[.slice aM ms.length cM,.slice aB xs.length cB]] w' fun e w''=>e=.returned (.bool true)∧SmB xs∧Kept w' w''):=fun w' k=>(HSM.out w' k).mono fun e w'' ⟨b,h1,h2,h3,h4⟩=>by
   have hb:=h3.2 hs
   subst hb
   exact ⟨h1,(h2 rfl).2.2,h4⟩
  have HKP:Hid (SmB xs→∀ w',Kept w w'→Calls Tryz.prog 12 #[.agg #[.slice aM ms.length cM,.slice aB xs.length cB]] w' (CiKP (keysD xs) w')):=fun h w' k=>cikeys_any N n aM _ cM _ xs w' (HBL.out w' k) (by have:=h.len; omega) h.okB (by have:=h.inls; omega) (fun x hx=>by have:=h.cits x hx; omega) (by have:=keys_len _ h.cits; have:=h.inls; omega)
  have HRK:Hid (SmB xs→∀ w',Kept w w'→Calls Tryz.prog 13 #[.agg #[.slice aM ms.length cM,.slice aB xs.length cB]] w' (CiKP (keysD xs) w')):=fun h w' k=>rkeys32_any N n aM _ cM _ xs w' (HBL.out w' k) (by have:=h.len; omega) (by have:=h.list; omega) (by have:=h.inls; omega) (fun b hb=>by have:=h.line b hb; omega) (fun x hx=>by have:=h.cits x hx; omega) (by have:=keys_len _ h.cits; have:=h.inls; omega)
  have HKL:Hid (SmB xs→(keysD xs).length≤1000000):=fun h=>by have h1:=keysI_len (inlsL xs) h.cits; have h2:=h.inls; unfold keysD; omega
  unfold CiKP at HKP HRK
  clear hs HSM HBL
  go_enter Tryz.func3,Tryz.ntmps3
  go_wp2_with fail
  generalize w.alloc _=w0 at *
  obtain ⟨D,HDD⟩:∃ D,Hid (w.heap.size=D):=⟨_,rfl⟩
  rw [HDD.out] at HD0 ⊢
  have HCC:Hid (∀ w',Kept w0 w'→(w'.cell? ⟨D,0,none⟩=some (.slice aM ms.length cM)∧w'.cell? ⟨D,1,none⟩=some (.slice aB xs.length cB))∧D<w'.heap.size∧Kept w0 w'):=fun w' h=>⟨⟨(HD0.out.kept h).cell 0 _ rfl,(HD0.out.kept h).cell 1 _ rfl⟩,(HD0.out.kept h).lt,h⟩
  obtain ⟨⟨c0,c1⟩,z0,-⟩:=HCC.out w0 (Kept.refl _)
  have hkd:Kept w0 w0.drew:=kept_drewN w0 1
  first
   | (go_region_held3 (fun w'=>(w'.cell? ⟨D,0,none⟩=some (.slice aM ms.length cM)∧w'.cell? ⟨D,1,none⟩=some (.slice aB xs.length cB))∧D<w'.heap.size∧Kept w0 w')
     ((refine HCC.out _ ?_; assumption))
     (first
      | (go_at_call 10; refine (HAW.out _ (HK0.out.trans kT)).mono ?_; rintro e w6 ⟨rfl,hk6⟩; have kE:Kept w0 w6:=kT.trans hk6; clear hk6)
      | (go_at_call 11; refine (texts32_any _ _ _ _ _ (HA1.out.kept hkR) HA2.out (HKL.out HSB.out) (HKL.out HSB.out)).mono ?_; rintro e w5 ⟨rfl,hk5⟩; rw [show decide (keysD xs=keysD xs)=true from decide_eq_true rfl]; have kT:Kept w0 w5:=kR.trans hk5; clear hk5)
      | (go_at_call 13; refine (HRK.out HSB.out _ (HK0.out.trans kP)).mono ?_; rintro e w4 ⟨v2,rfl,ha2,hkR⟩; have HA2:=Lib.hid ha2; clear ha2; have kR:Kept w0 w4:=kP.trans hkR)
      | (go_at_call 12; refine (HKP.out HSB.out _ (HK0.out.trans kS2)).mono ?_; rintro e w3 ⟨v1,rfl,ha1,hkP⟩; have HA1:=Lib.hid ha1; clear ha1; have kP:Kept w0 w3:=kS2.trans hkP; clear hkP)
      | (go_at_call 9; refine (HS1.out _ (HK0.out.trans kS)).mono ?_; rintro e w2 ⟨rfl,-,hk2⟩; have kS2:Kept w0 w2:=kS.trans hk2; clear hk2)
      | (go_at_call 9; refine (HS1.out _ (HK0.out.trans hkd)).mono ?_; rintro e w1 ⟨rfl,hsb,hk1⟩; have HSB:=Lib.hid hsb; clear hsb; have kS:Kept w0 w1:=hkd.trans hk1; clear hk1)))
   | fail
  all_goals
   have HKB:=Lib.hid (HK0.out.trans kE)
   clear kE kT kR kP kS kS2 HCC
   go_wp2_with fail
   (try go_ret)
   exact ⟨rfl,HKB.out⟩
 ·have HS0:Hid (∀ w',Kept w w'→Calls Tryz.prog 9 #[.agg #[.slice aM ms.length cM,.slice aB xs.length cB]] w' fun e w''=>e=.returned (.bool false)∧Kept w' w''):=fun w' k=>(HSM.out w' k).mono fun e w'' ⟨b,h1,h2,h3,h4⟩=>by
   cases b with
   | true=>exact absurd (h3.1 rfl) hs
   | false=>exact ⟨h1,h4⟩
  clear hs HSM HBL
  go_enter Tryz.func3,Tryz.ntmps3
  go_wp2_with fail
  generalize w.alloc _=w0 at *
  obtain ⟨D,HDD⟩:∃ D,Hid (w.heap.size=D):=⟨_,rfl⟩
  rw [HDD.out] at HD0 ⊢
  have HCC:Hid (∀ w',Kept w0 w'→(w'.cell? ⟨D,0,none⟩=some (.slice aM ms.length cM)∧w'.cell? ⟨D,1,none⟩=some (.slice aB xs.length cB))∧D<w'.heap.size∧Kept w0 w'):=fun w' h=>⟨⟨(HD0.out.kept h).cell 0 _ rfl,(HD0.out.kept h).cell 1 _ rfl⟩,(HD0.out.kept h).lt,h⟩
  obtain ⟨⟨c0,c1⟩,z0,-⟩:=HCC.out w0 (Kept.refl _)
  have hkd:Kept w0 w0.drew:=kept_drewN w0 1
  have hun:undef=Value.tuple #[]:=rfl
  first
   | (go_region_law (first
       | (go_simp; go_at_call 10; refine (HAW.out _ (HK0.out.trans kA)).mono ?_; rintro e w2 ⟨rfl,hk2⟩; have kB:Kept w0 w2:=kA.trans hk2; obtain ⟨⟨e0,e1⟩,ez,-⟩:=HCC.out w2 kB; clear hk2)
       | (go_simp; go_at_call 9; refine (HS0.out _ (HK0.out.trans hkd)).mono ?_; rintro e w1 ⟨rfl,hk1⟩; have kA:Kept w0 w1:=hkd.trans hk1; obtain ⟨⟨d0,d1⟩,dz,-⟩:=HCC.out w1 kA; clear hk1)))
   | fail
  all_goals
   have HKB:=Lib.hid (HK0.out.trans kB)
   clear kA HCC
   go_wp2_with fail
   (try go_ret)
   exact ⟨rfl,HKB.out⟩
end Go.Proofs.YtmcoomlkbgiboaaGreatDoor

/- What every row of this seat needs: the arguments read behind a call that keeps what was there as they did before; the world of the witness; the variable that the library's search reads. No condition. -/
set_option linter.all false
namespace Go.Proofs.YtmcoomlkbgiboaaGreatDoor
open Go.ChangeShapes Go.WideShapes Go.ChangeAt Go.RowKit

theorem Tryz.ownNone:ownKnob Tryz.prog.godebug=none:=by kernel_rfl
theorem Tryz.laidOut:laidOutB Tryz.prog=true:=by kernel_rfl

section
variable {H:Type} {enc:TypeId × Value→H} {P:Program}
theorem trodAll_stays (hl:laidOutB P=true) {W W':World} {sp:Nat→Bool}:∀ {ts:List TypeId} {vs:List Value} {ds:List (DataW H)} {p:List MemPlace},
  (∀ t∈ts,P.readableRec t=true∧t<P.types.size)→DataW.TrodAll enc P W 0 (fun _=>true) true ts vs ds p→(∀ x∈p,W.sameAt W' x)→(∀ x∈p,sp x.block=true)→DataW.TrodAll enc P W' 0 sp true ts vs ds p
 | [],vs,ds,p,_,h,_,_=>by
  obtain ⟨rfl,rfl,rfl⟩:=trodAll_nil h
  exact trodAll_mk0
 | t :: ts,vs,ds,p,hr,h,hs,hp=>by
  obtain ⟨v,vs',d,ds',p1,p2,rfl,rfl,rfl,h0,h1⟩:=trodAll_cons h
  have h0':=WideElems.Trod_stays hl (hr t (by simp)).1 (hr t (by simp)).2 h0 (fun x hx=>hs x (by simp [hx])) (sp':=sp) (fun x hx=>hp x (by simp [hx]))
  exact trodAll_cons_mk h0' (trodAll_stays hl (fun t ht=>hr t (by simp [ht])) h1 (fun x hx=>hs x (by simp [hx])) (fun x hx=>hp x (by simp [hx])))

/-- The post of a law: it answers true, and what was there is as it was. -/
theorem law_post {f:Func} {s:ChangeSpec} {apart fresh handsOn again:Bool} {W W':World} {args:Array Value} {ds gs:List (DataW H)} {before:List MemPlace} {bt:TypeId}
  (hl:laidOutB P=true) (hread:∀ t∈f.params.toList,P.readableRec t=true∧t<P.types.size) (hr:f.resultTypes=#[bt]) (hbt:P.underlying bt=some .bool) (hsv:s.vars=[])
  (hW:DataW.Whole enc P f.params.toList s.vars apart W args.toList ds gs before) (hs:s.fn H ds={ results:=[.lit (.bool true)],args:=ds }) (hb:Kept W W') :
  s.post enc P f apart fresh handsOn again W args (.bool true) W':=by
 have hW':=hW
 have hlt:∀ p∈before,p.block<W.heap.size:=fun p hp=>hW'.lt p hp
 have hold:∀ p∈before,(fun b=>decide (b<W.heap.size)) p.block=true:=fun p hp=>by simpa using hlt p hp
 obtain ⟨pa,pv,hA,hV,hbe,hz,hn⟩:=hW
 rw [hsv] at hV
 obtain ⟨rfl,rfl⟩:=trodVars_none hV
 rw [List.append_nil] at hbe
 subst hbe
 have hs':s.fn H (ds ++ [])={ results:=[.lit (.bool true)],args:=ds }:=by rw [List.append_nil]; exact hs
 have hres:∀ (b:Nat) (sp:Nat→Bool) (hd:Bool),DataW.TrodAll enc P W' b sp hd f.resultTypes.toList ((Value.bool true).resultList f.resultTypes.size) (s.fn H (ds ++ [])).results []:=by
  intro b sp hd
  rw [hs',hr]
  exact trodAll_cons_mk (shut_bool hbt _) trodAll_mk0
 have hargs:∀ sp:Nat→Bool,(∀ p∈before,sp p.block=true)→DataW.TrodAll enc P W' 0 sp true f.params.toList args.toList (s.fn H (ds ++ [])).args before:=by
  intro sp hsp
  rw [hs']
  exact trodAll_stays hl hread hA (fun x hx=>hb.same (hlt x hx)) hsp
 have hvars:∀ sp:Nat→Bool,DataW.TrodVars enc P W' sp s.vars (s.fn H (ds ++ [])).vars []:=by
  intro sp
  rw [hs',hsv]
  rfl
 have hok:=ok_one (P:=P) (W':=W') (v:=.bool true) hr rfl (okWide_bool_mk hbt _)
 refine ⟨ds,[],before,[],before,[],hW',hres _ _ _,hargs _ hold,hvars _,World.keptBut_mono (fun p hp=>⟨hp,?_⟩) (hb.frame (· ∈ before)),fun _=>?_⟩
 ·exact Or.inr (Or.inl hp)
 ·refine ⟨hok,_,_,([] ++ before) ++ [],⟨[] ++ before,[],trodAll_append (hargs _ (fun _ _=>rfl)) (hres _ _ _),hvars _,rfl,?_,?_⟩,?_⟩
  ·intro b off hp
   have hin:MemPlace.cell b off∈before:=by simpa using hp
   rw [hb.frozen (hlt _ hin)]
   exact hz b off hin
  ·intro ha
   have:=hn ha
   simpa using this
  ·intro p hp _
   simpa using hp
end

theorem gnd_of {W:World} (h:W.ShapedOpen Tryz.prog):Gnd W :=
 Go.Proofs.cell_of_shapedOpen_int (zero:=#[.int .i64 0]) (t:=3) h (of_decide_eq_true (by kernel_rfl)) (by kernel_rfl) rfl (by kernel_rfl) (by kernel_rfl) Tryz.underlying3

/-- The cells of the two tables of utf8. -/
def firstCells:Array Value:=(Go.Pinned.utf8FirstZ.map fun (n:Nat)=>Value.int .u8 (n:Int)).toArray
def acceptCells:Array Value:=#[.int .u8 128,.int .u8 191,.int .u8 160,.int .u8 191,.int .u8 128,.int .u8 159,.int .u8 144,.int .u8 191,.int .u8 128,.int .u8 143,.int .u8 0,.int .u8 0,.int .u8 0,.int .u8 0,.int .u8 0,.int .u8 0,.int .u8 0,.int .u8 0,.int .u8 0,.int .u8 0,.int .u8 0,.int .u8 0,.int .u8 0,.int .u8 0,.int .u8 0,.int .u8 0,.int .u8 0,.int .u8 0,.int .u8 0,.int .u8 0,.int .u8 0,.int .u8 0]
def putCells (cs:Array Value):Obj→Obj
 | .cells _ t frozen=>.cells cs t frozen
 | o=>o
end Go.Proofs.YtmcoomlkbgiboaaGreatDoor
