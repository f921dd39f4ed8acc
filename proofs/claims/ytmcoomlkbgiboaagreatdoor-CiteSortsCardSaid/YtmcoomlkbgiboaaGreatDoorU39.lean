/- Terms, marks and entries of an index, in plain Lean. No condition. -/
import Derived.Test.YtmcoomlkbgiboaaGreatDoorU26
import Derived.Test.YtmcoomlkbgiboaaGreatDoorU04
import Derived.Test.YtmcoomlkbgiboaaGreatDoorU35
import Derived.Test.YtmcoomlkbgiboaaGreatDoorU11
import Derived.Test.YtmcoomlkbgiboaaGreatDoorU33
import Derived.Test.YtmcoomlkbgiboaaGreatDoorU21
import Derived.Test.YtmcoomlkbgiboaaGreatDoorU17
import Derived.Test.YtmcoomlkbgiboaaGreatDoorU24
import Derived.Test.YtmcoomlkbgiboaaGreatDoorU10
import Derived.Test.YtmcoomlkbgiboaaGreatDoorU12
import Derived.Lib.ItoaNum
import Derived.Lib.TrimByte

set_option linter.all false
namespace Go.Proofs.YtmcoomlkbgiboaaGreatDoor
open Go.RowKit

def kIndex:Bs:=[105,110,100,101,120]
def ixKey:Bs:=[107,101,121]
def trimI (s:Bs):Bs:=Lib.trimB s 32
def mainOf (s:Bs):Bs:=trimI ((trimI s).take (before 33 (trimI s)))
def isMk (x:Inl):Bool:=decide (x.kind=11) && x.cls.contains kIndex
def termTx (x:Inl):Bs:=(getP x.prs ixKey).getD (plainL x.kids)
def mainI (x:Inl):Bs:=match isMk x with | true=>mainOf (termTx x) | false=>[]
/-- Is an inline a mark that is not ignored? -/
def okM (x:Inl):Bool:=!(mainI x == [])
/-- Identifier number n. -/
def idN (n:Nat):Bs:=[105,120,45] ++ Lib.itoa n
/-- The first number behind n that is free. -/
def nextF (used:List Bs):Nat→Nat→Nat
 | 0,n=>n+1
 | f+1,n=>if used.contains (idN (n+1))=true then nextF used f (n+1) else n+1
def nextN (used:List Bs) (n:Nat):Nat:=nextF used used.length n
def needI (x:Inl):Bool:=x.id == [] && okM x
def ixNumS (used:List Bs) (n:Nat) (b:Bool):Nat:=match b with | true=>nextN used n | false=>n
def idS (id:Bs) (m:Nat) (b:Bool):Bs:=match b with | true=>idN m | false=>id
mutual
/-- A marked copy of an inline, and the last number. -/
def mk1 (used:List Bs):Nat→Inl→Inl × Nat
 | n,.mk kind text dest title id cls prs args cits kids =>
  (.mk kind text dest title (idS id (ixNumS used n (needI (.mk kind text dest title id cls prs args cits kids))) (needI (.mk kind text dest title id cls prs args cits kids))) cls prs args cits
   (mkL used (ixNumS used n (needI (.mk kind text dest title id cls prs args cits kids))) kids).1,(mkL used (ixNumS used n (needI (.mk kind text dest title id cls prs args cits kids))) kids).2)
def mkL (used:List Bs):Nat→List Inl→List Inl × Nat
 | n,[]=>([],n)
 | n,x :: xs=>((mk1 used n x).1 :: (mkL used (mk1 used n x).2 xs).1,(mkL used (mk1 used n x).2 xs).2)
end
end Go.Proofs.YtmcoomlkbgiboaaGreatDoor

/- The keys that a document cites, in plain Lean. No condition. -/
set_option linter.all false
namespace Go.Proofs.YtmcoomlkbgiboaaGreatDoor
open Go.RowKit

def keyStep (out:List Bs) (k:Bs):List Bs:=if out.contains k=true then out else out ++ [k]
def keysL (ks:List Bs):List Bs:=ks.foldl keyStep []
def citKeys (x:Inl):List Bs:=if x.kind=13 then x.cits.map (·.key) else []
def keysI (xs:List Inl):List Bs:=keysL (xs.flatMap citKeys)
def keysD (xs:List Blo):List Bs:=keysI (inlsL xs)
theorem keysL_app (a b:List Bs):keysL (a ++ b)=b.foldl keyStep (keysL a):=by unfold keysL; rw [List.foldl_append]
theorem keysL_snoc (a:List Bs) (k:Bs):keysL (a ++ [k])=keyStep (keysL a) k:=by rw [keysL_app]; rfl
theorem keysL_len (l:List Bs):(keysL l).length≤l.length:=by
 have key:∀ (l out:List Bs),(l.foldl keyStep out).length≤out.length+l.length:=by
  intro l
  induction l with
  | nil=>intro out; exact Nat.le_refl _
  | cons k l ih =>
   intro out
   have h1:=ih (keyStep out k)
   have h2:(keyStep out k).length≤out.length+1:=by unfold keyStep; split <;> simp
   rw [List.length_cons]
   show (l.foldl keyStep (keyStep out k)).length≤_
   omega
 simpa [keysL] using key l []
theorem keys_tk {ds:List Inl} {k:Nat} {x:Inl} (h:ds[k]? = some x):(ds.take (k+1)).flatMap citKeys=(ds.take k).flatMap citKeys ++ citKeys x:=by
 rw [take_snoc h,List.flatMap_append]; simp
theorem keys_led {ds:List Inl} {k:Nat} {x:Inl} (h:ds[k]? = some x):((ds.take k).flatMap citKeys).length+(citKeys x).length≤(ds.flatMap citKeys).length:=by
 obtain ⟨hk,rfl⟩:=List.getElem?_eq_some_iff.1 h
 have h0:ds=ds.take k ++ (ds[k] :: ds.drop (k+1)):=by rw [← List.drop_eq_getElem_cons hk,List.take_append_drop]
 conv=>rhs; rw [h0]
 rw [List.flatMap_append,List.flatMap_cons,List.length_append,List.length_append]; omega
theorem keyStep_in {us:List Bs} {k:Bs} (h:us.contains k=true):keyStep us k=us:=if_pos h
theorem keyStep_no {us:List Bs} {k:Bs} (h:us.contains k=false):keyStep us k=us ++ [k]:=if_neg (by rw [h]; simp)
theorem keys_next {pre:List Bs} {cs:List Cit} {j:Nat} {c:Cit} (h:cs[j]? = some c):keysL (pre ++ (cs.take (j+1)).map (·.key))=keyStep (keysL (pre ++ (cs.take j).map (·.key))) c.key:=by
 rw [take_snoc h,List.map_append,← List.append_assoc]
 exact keysL_snoc _ _
end Go.Proofs.YtmcoomlkbgiboaaGreatDoor

/- cite.Keys: the keys that a document cites. Conditions: lengths. -/
set_option linter.all false
namespace Go.Proofs.YtmcoomlkbgiboaaGreatDoor
open Go.RowKit

def CiKP (ks:List Bs) (w:World) (e:Ending) (w':World):Prop:=∃ v,e=.returned v∧Strs w' v ks∧Kept w w'
set_option maxRecDepth 100000 in
set_option maxHeartbeats 6400000 in
theorem cikeys_any (N M:Nat) (aM:Option Addr) (nM cM:Nat) (v:Value) (xs:List Blo) (w:World) (hv:Bls (fun g=>g<w.heap.size) N M w v xs) (hl:xs.length≤1000000) (hok:okBL xs) (hn:(inlsL xs).length≤1000000) (hx:∀ x∈inlsL xs,x.cits.length≤1000000) (hks:((inlsL xs).flatMap citKeys).length≤1000000) :
  Calls Tryz.prog 12 #[.agg #[.slice aM nM cM,v]] w (CiKP (keysD xs) w):=by
 have HX:=Lib.hid hx
 obtain ⟨a,c,rfl,hc⟩:=hv.form
 obtain ⟨i0,hi,hz0,hz1,hz2⟩:=info_parts Tryz.infoStr
 obtain ⟨B,HB⟩:∃ B,Hid (w.heap.size=B):=⟨_,rfl⟩
 have HK0:=Lib.hid ((kept_alloc w (.cells #[.slice aM nM cM,.slice a xs.length c] 25)).trans (kept_alloc _ (.map #[] 0)))
 have hb:=Lib.hid (MapK_made (w.alloc (.cells #[.slice aM nM cM,.slice a xs.length c] 25)))
 have e1:(w.alloc (.cells #[.slice aM nM cM,.slice a xs.length c] 25)).heap.size=B+1:=by rw [← HB.out]; simp
 rw [e1] at hb
 have e2:((w.alloc (.cells #[.slice aM nM cM,.slice a xs.length c] 25)).alloc (.map #[] 0)).heap.size=B+2:=by simp; rw [← HB.out]
 have hsz:=HB.out
 have HDF:=Lib.hid (inlines_any M N w.heap.size (.slice a xs.length c) xs _ HK0.out.size (hv.kept HK0.out) hl hok hn)
 have mk:=run_makeMap (P:=Tryz.prog) 73 (w.alloc (.cells #[.slice aM nM cM,.slice a xs.length c] 25))
 unfold InlsP at HDF
 have HFIN:Hid (∀ v w',Strs w' v (keysI (inlsL xs))→Kept w w'→CiKP (keysD xs) w (.returned v) w'):=fun v w' h1 h2=>⟨v,rfl,h1,h2⟩
 generalize CiKP (keysD xs) w=P at *
 obtain ⟨ds,HDS⟩:∃ ds,Hid (inlsL xs=ds):=⟨_,rfl⟩
 rw [HDS.out] at HX HDF hn hks HFIN
 have HLD:Hid (∀ k x,ds[k]? = some x→((ds.take k).flatMap citKeys).length+(citKeys x).length≤1000000):=fun k x h=>Nat.le_trans (keys_led h) hks
 unfold keysI at HFIN
 clear hok hx hv hks
 go_enter Tryz.func12,Tryz.ntmps12
 go_wp2_with fail
 refine HDF.out.mono ?_
 rintro e w1 ⟨v1,rfl,hR,hk1⟩
 have HK1:=Lib.hid (HK0.out.trans hk1)
 have HM1:=Lib.hid (MapK_kept hb.out hk1)
 have hR1:Lns (fun g=>g<w1.heap.size∧g≠B+1) (N+1) w1 v1 ds:=hR.sam (fun _ _ _=>rfl) (fun g h q=>⟨h,by omega⟩)
 have HR:=Lib.hid hR1
 obtain ⟨a1,c1,rfl,hc1⟩:=hR1.form
 clear hR hR1 hk1 mk e1 e2 hb HDF HK0
 go_wp2_with fail
 go_loopw [4,14] (fun o i wr=>∃ (k:Nat),k≤ds.length∧i=.int .i64 k∧Hid (OutG StrK 1 (fun _=>False) w1.heap.size 9 wr o (keysL ((ds.take k).flatMap citKeys)))∧Hid (MapK wr (B+1) (keysL ((ds.take k).flatMap citKeys)))∧Hid (Only (fun g=>g=B+1∨w1.heap.size≤g) w1 wr)) (fun _ i _=>ds.length - (intOf i).toNat)
 case atStart=>exact ⟨0,Nat.zero_le _,rfl,OutG.nil _ _ _ _ _ _,HM1.out,Only.of_kept (Kept.refl w1)⟩
 case round =>
  obtain ⟨k,hk,rfl,HGR,HMR,HKR⟩:=hrel
  by_cases hlt:k<ds.length
  ·obtain ⟨x,hx⟩:∃ x,ds[k]? = some x:=⟨_,List.getElem?_eq_getElem hlt⟩
   have HVR:=Lib.hid (HR.out.sam (Sam.only HKR.out (fun g _ h q=>by omega)) (fun g _ h=>h))
   have hcl:=HX.out x (List.mem_of_getElem? hx)
   have HT:=Lib.hid (keys_tk hx)
   have HLK:=Lib.hid (HLD.out k x hx)
   obtain ⟨pre,HPR⟩:∃ us,Hid ((ds.take k).flatMap citKeys=us):=⟨_,rfl⟩
   rw [HPR.out] at HGR HMR HT HLK
   obtain ⟨g,o,vC,vP,vA,vT,vK,rfl,hgg,hgS,-,-,⟨d0,d1,d2,d3,d4,d5,d6,d7,d8,d9⟩,-,⟨hC,-⟩,⟨hPP,-⟩,⟨hA,-⟩,hTT,hK⟩:=Lns.at_ HVR.out k x hx
   obtain ⟨kind,text,dest,title,id,cls,prs,args,cits,kids⟩:=x
   simp only [Inl.kind,Inl.text,Inl.dest,Inl.title,Inl.id,Inl.cls,Inl.prs,Inl.args,Inl.cits,Inl.kids] at d0 d1 d2 d3 d4 hC hPP hA hTT hK hcl
   obtain ⟨aC,cC,rfl,lC⟩:=hC.shape
   obtain ⟨aP,cP,rfl,lP⟩:=hPP.shape
   obtain ⟨aA,cA,rfl,lA⟩:=hA.shape
   obtain ⟨aT,cT,rfl,lT⟩:=hTT.form
   obtain ⟨aK,cK,rfl,lK⟩:=hK.form
   have HTT:=Lib.hid hTT
   have HKI:=Lib.hid (kept_alloc wr (.cells #[.int .i64 kind,.string (bs text),.string (bs dest),.string (bs title),.string (bs id),.slice aC cls.length cC,.slice aP prs.length cP,.slice aA args.length cA,.slice aT cits.length cT,.slice aK kids.length cK] 71))
   have HM2:=Lib.hid (MapK_kept HMR.out HKI.out)
   have HG2:=Lib.hid (HGR.out.kept strK HKI.out)
   have HON2:Hid (Only (fun g=>g=B+1∨w1.heap.size≤g) w1 (wr.alloc (.cells #[.int .i64 kind,.string (bs text),.string (bs dest),.string (bs title),.string (bs id),.slice aC cls.length cC,.slice aP prs.length cP,.slice aA args.length cA,.slice aT cits.length cT,.slice aK kids.length cK] 71))):=HKR.out.trans (Only.of_kept HKI.out)
   clear hC hPP hA hTT hK HVR hx
   by_cases hk13:kind=13
   ·subst hk13
    have HCK:Hid (citKeys (.mk 13 text dest title id cls prs args cits kids)=cits.map (·.key)):=rfl
    rw [HCK.out] at HT HLK
    rw [List.length_map] at HLK
    have hlk:=HLK.out
    go_wp2_with fail
    generalize wr.alloc _=w2 at *
    clear d0 d1 d2 d3 d4 d5 d6 d7 d8 d9
    obtain ⟨wo,rfl⟩:∃ wo:World,wo=wr:=⟨_,rfl⟩
    go_loopw [4,24] (fun o i wx=>∃ (j:Nat),j≤cits.length∧i=.int .i64 j∧Hid (OutG StrK 1 (fun _=>False) w1.heap.size 9 wx o (keysL (pre ++ (cits.take j).map (·.key))))∧Hid (MapK wx (B+1) (keysL (pre ++ (cits.take j).map (·.key))))∧Hid (Only (fun g=>g=B+1∨w1.heap.size≤g) w1 wx)∧Hid (Only (fun g=>g=B+1∨w1.heap.size≤g) wo wx)) (fun _ i _=>cits.length - (intOf i).toNat)
    case atStart=>exact ⟨0,Nat.zero_le _,rfl,(by rw [List.take_zero,List.map_nil,List.append_nil]; exact HG2.out),(by rw [List.take_zero,List.map_nil,List.append_nil]; exact HM2.out),HON2.out,Only.of_kept HKI.out⟩
    case round =>
     clear HM2 HG2 HON2 HGR HMR
     obtain ⟨j,hj,rfl,HGR,HMR,HKX,HKO⟩:=hrel
     by_cases hlt2:j<cits.length
     ·obtain ⟨x,hx⟩:∃ x,cits[j]? = some x:=⟨_,List.getElem?_eq_getElem hlt2⟩
      have HT2:=Lib.hid (keys_next (pre:=pre) hx)
      have hul:(keysL (pre ++ (cits.take j).map (·.key))).length≤1000000:=by
       have:=keysL_len (pre ++ (cits.take j).map (·.key))
       rw [List.length_append,List.length_map,List.length_take] at this
       omega
      obtain ⟨us,HUS⟩:∃ us,Hid (keysL (pre ++ (cits.take j).map (·.key))=us):=⟨_,rfl⟩
      rw [HUS.out] at HGR HMR HT2 hul
      have hcw:=HTT.out.sam (S':=fun g=>g<w1.heap.size∧g≠B+1) (Sam.only HKO.out (fun g _ h q=>by omega)) (fun _ _ q=>q)
      obtain ⟨g,o,cs,rfl,hg,hgS,-,hcs,hcc,-,-⟩:=RowR.at_ (show RowR (fun g=>g<w1.heap.size∧g≠B+1) 4 CitW wr _ _ from hcw) j x hx
      rw [hcc] at hcs
      have d0:wr.cell? ⟨g,o+j * 4,none⟩=some (.string (bs x.key)):=by simpa using hcs 0 _ rfl
      have d1:wr.cell? ⟨g,o+j * 4+1,none⟩=some (.string (bs x.pre)):=hcs 1 _ rfl
      have d2:wr.cell? ⟨g,o+j * 4+2,none⟩=some (.string (bs x.suf)):=hcs 2 _ rfl
      have d3:wr.cell? ⟨g,o+j * 4+3,none⟩=some (.bool x.bare):=hcs 3 _ rfl
      obtain ⟨nm,pr,sf,br⟩:=x
      simp only at d0 d1 d2 d3 HT2
      have HB0:=Lib.hid (Blk.new wr 68 #[.string (bs nm),.string (bs pr),.string (bs sf),.bool br])
      have HKI2:=Lib.hid (kept_alloc wr (.cells #[.string (bs nm),.string (bs pr),.string (bs sf),.bool br] 68))
      have hIM:wr.heap.size≠B+1:=by have:=HM1.out.lt; have:=HKX.out.size; omega
      have HM4:=Lib.hid (MapK_kept HMR.out HKI2.out)
      have HG4:=Lib.hid (HGR.out.kept strK HKI2.out)
      have lk:=lookK (wr.alloc (.cells #[.string (bs nm),.string (bs pr),.string (bs sf),.bool br] 68)) (B+1) us nm HM4.out
      clear hx hcs hcc hcw
      cases hct:us.contains nm with
      | true =>
       have HT3:=HT2.out
       rw [keyStep_in hct] at HT3
       rw [hct] at lk
       rw [← HT3] at HM4 HG4
       have HON4:Hid (Only (fun g=>g=B+1∨w1.heap.size≤g) w1 (wr.alloc (.cells #[.string (bs nm),.string (bs pr),.string (bs sf),.bool br] 68))):=HKX.out.trans (Only.of_kept HKI2.out)
       have HON5:Hid (Only (fun g=>g=B+1∨w1.heap.size≤g) wo (wr.alloc (.cells #[.string (bs nm),.string (bs pr),.string (bs sf),.bool br] 68))):=HKO.out.trans (Only.of_kept HKI2.out)
       clear HGR HMR HKX HKO HUS HT2 HT3 hct
       go_wp2_with fail
       go_roundw
       case rel=>exact ⟨j+1,by omega,by go_num,HG4.out,HM4.out,HON4.out,HON5.out⟩
       case measure=>simp [intOf]; omega
      | false =>
       have HT3:=HT2.out
       rw [keyStep_no hct] at HT3
       rw [hct] at lk
       have hnot:nm ∉ us:=by simpa using hct
       have up:=insK (wr.alloc (.cells #[.string (bs nm),.string (bs pr),.string (bs sf),.bool br] 68)) (B+1) us nm HM4.out hnot
       have HM5:=Lib.hid (putK_map (wr.alloc (.cells #[.string (bs nm),.string (bs pr),.string (bs sf),.bool br] 68)) (B+1) (us ++ [nm]) HM4.out.lt)
       have HO5:=Lib.hid (putK_only (wr.alloc (.cells #[.string (bs nm),.string (bs pr),.string (bs sf),.bool br] 68)) (B+1) (us ++ [nm]))
       have HG5:=Lib.hid (HG4.out.only strK HO5.out (fun g _ h=>h.elim) (fun g q r=>by have:=(HGR.out.blk g q).1; have:=HM1.out.lt; omega))
       have HB5:=Lib.hid (HB0.out.onl HO5.out hIM)
       have c0:=HB5.out.cell 0 _ rfl
       have cz:=HB5.out.lt
       have HROW:=Lib.hid (Blk.new (putK (wr.alloc (.cells #[.string (bs nm),.string (bs pr),.string (bs sf),.bool br] 68)) (B+1) (us ++ [nm])) 9 #[.string (bs nm)])
       have HK6:=Lib.hid (kept_alloc (putK (wr.alloc (.cells #[.string (bs nm),.string (bs pr),.string (bs sf),.bool br] 68)) (B+1) (us ++ [nm])) (.cells #[.string (bs nm)] 9))
       have HG6:=Lib.hid (HG5.out.kept strK HK6.out)
       have HM6:=Lib.hid (MapK_kept HM5.out HK6.out)
       obtain ⟨ar,cr,rfl,hcr,hmr⟩:=HGR.out.form
       have hb6:w1.heap.size≤((putK (wr.alloc (.cells #[.string (bs nm),.string (bs pr),.string (bs sf),.bool br] 68)) (B+1) (us ++ [nm])).alloc (.cells #[.string (bs nm)] 9)).heap.size:=by
        have:=HKX.out.size; have:=HKI2.out.size; have:=HO5.out.size; have:=HK6.out.size; omega
       clear hct hnot HG5 HM5 HB0 HB5
       go_wp2_with (at_builtin; refine holdC ?_)
       refine Lib.hid ?_
       refine wpList_append_out strK rfl (.tmp 36) (.tmp 39) 29 rfl i0 _ 16 Tryz.underlying29 hi hz0 hz1 hz2 rfl (by omega) (by rfl) HG6.out _ [.string (bs nm)] nm (by rfl) (fun j u hu=>HROW.out.cell j u (by rw [← Array.getElem?_toList]; exact hu)) rfl rfl (by unfold maxLen; omega) (by omega) hb6 _ rfl ?_
       intro g7 c7' w7 hout7 hgrow7 hat7 hlt7
       have HGROW:=Lib.hid hgrow7
       have HAT:=Lib.hid hat7
       have HOUT7:=Lib.hid hout7
       clear hgrow7 hat7 hout7
       have hong:=Only.grown HGROW.out
       have HOUT8:Hid (OutG StrK 1 (fun _=>False) w1.heap.size 9 w7 (.slice (some ⟨g7,0,none⟩) (us.length+1) c7') (keysL (pre ++ (cits.take (j+1)).map (·.key)))):=by rw [HT3]; exact HOUT7.out
       have HM7:Hid (MapK w7 (B+1) (keysL (pre ++ (cits.take (j+1)).map (·.key)))):=by
        rw [HT3]
        exact HM6.out.only hong (fun q=>by have:=(HGR.out.blk (B+1) q.symm).1; have:=HM1.out.lt; omega)
       have HSTEP:Hid (Only (fun g=>g=B+1∨w1.heap.size≤g) wr w7):=(Only.of_kept HKI2.out).trans ((HO5.out.mono (fun g _ q=>.inl q)).trans ((Only.of_kept HK6.out).trans (hong.mono (fun g _ q=>.inr (HGR.out.blk g q.symm).1))))
       have HON7:=Lib.hid (HKX.out.trans HSTEP.out)
       have HON8:=Lib.hid (HKO.out.trans HSTEP.out)
       clear hong HGROW HAT HOUT7 HM6 HG6 HK6 HROW HKI2 HO5 HM4 HT2 HT3 HUS lk up HGR HKX HKO HMR c0 cz HSTEP
       go_wp2_with fail
       go_roundw
       case rel=>exact ⟨j+1,by omega,by go_num,HOUT8.out,HM7.out,HON7.out,HON8.out⟩
       case measure=>simp [intOf]; omega
     ·obtain rfl:j=cits.length:=by omega
      rw [List.take_length,← HT.out] at HGR HMR
      clear HT HKO HTT
      go_wp2_with fail
      go_roundw
      case rel=>exact ⟨k+1,by omega,by go_num,HGR.out,HMR.out,HKX.out⟩
      case measure=>simp [intOf]; omega
   ·have HCK:Hid (citKeys (.mk kind text dest title id cls prs args cits kids)=[]):=if_neg hk13
    have HT3:=HT.out
    rw [HCK.out,List.append_nil] at HT3
    rw [← HT3] at HM2 HG2
    clear HGR HMR HKR HT HT3 HCK HLK
    go_wp2_with fail
    go_roundw
    case rel=>exact ⟨k+1,by omega,by go_num,HG2.out,HM2.out,HON2.out⟩
    case measure=>simp [intOf]; omega
  ·obtain rfl:k=ds.length:=by omega
   rw [List.take_length] at HGR
   obtain ⟨ar,cr,rfl,hcr,hmr⟩:=HGR.out.form
   have HKZ:Hid (Kept w wr):=HK1.out.trans' (HKR.out.below (by have:=HK1.out.size; omega) (fun i h=>by have:=HB.out; have:=HK1.out.size; omega))
   have HF:=Lib.hid (HFIN.out _ wr (Strs.outO HGR.out) HKZ.out)
   clear HGR HMR HKR HR HM1
   go_wp2_with fail
   (try go_ret)
   exact HF.out
end Go.Proofs.YtmcoomlkbgiboaaGreatDoor

/- bib.Find and ref30.Find. Conditions: lengths. -/
set_option linter.all false
namespace Go.Proofs.YtmcoomlkbgiboaaGreatDoor
open Go.RowKit

def findS (ss:List SrcT) (k:Bs):Option SrcT:=ss.find? fun s=>s.key == k
theorem findS_at (ss:List SrcT) (k:Bs) (n:Nat) (s:SrcT) (hx:ss[n]? = some s) (hb:∀ x∈ss.take n,(x.key == k)=false) (hk:(s.key == k)=true):findS ss k=some s:=by
 obtain ⟨hk',rfl⟩:=List.getElem?_eq_some_iff.1 hx
 unfold findS
 have e:ss=ss.take n ++ ss[n] :: ss.drop (n+1):=by rw [← List.drop_eq_getElem_cons hk',List.take_append_drop]
 conv=>lhs; rw [e]
 rw [List.find?_append,List.find?_eq_none.2 (by intro x h; rw [hb x h]; simp),List.find?_cons_of_pos (by simpa using hk)]
 rfl
theorem findS_none (ss:List SrcT) (k:Bs) (hb:∀ x∈ss,(x.key == k)=false):findS ss k=none:=by
 unfold findS
 rw [List.find?_eq_none]
 intro x h; rw [hb x h]; simp
theorem kept5 {w wr:World} {v0 v1 v2 v3 v4:Value} (h:Kept w wr):Kept w (((((wr.setCell ⟨w.heap.size,0,none⟩ v0).setCell ⟨w.heap.size,1,none⟩ v1).setCell ⟨w.heap.size,2,none⟩ v2).setCell ⟨w.heap.size,3,none⟩ v3).setCell ⟨w.heap.size,4,none⟩ v4) :=
 kept_set (kept_set (kept_set (kept_set (kept_set h _ _ _ (Nat.le_refl _)) _ _ _ (Nat.le_refl _)) _ _ _ (Nat.le_refl _)) _ _ _ (Nat.le_refl _)) _ _ _ (Nat.le_refl _)
theorem only_set {S:Nat→Prop} (w:World) (g o:Nat) (v:Value) (h:S g):Only S w (w.setCell ⟨g,o,none⟩ v):=(Only.setCell g o v).mono (fun i _ e=>e ▸ h)
theorem only5 {S:Nat→Prop} {w:World} {B:Nat} {v0 v1 v2 v3 v4:Value} (h:S B):Only S w (((((w.setCell ⟨B,0,none⟩ v0).setCell ⟨B,1,none⟩ v1).setCell ⟨B,2,none⟩ v2).setCell ⟨B,3,none⟩ v3).setCell ⟨B,4,none⟩ v4) :=
 ((((only_set _ _ _ _ h).trans (only_set _ _ _ _ h)).trans (only_set _ _ _ _ h)).trans (only_set _ _ _ _ h)).trans (only_set _ _ _ _ h)
def FindPost (o:Option SrcT) (w:World) (e:Ending) (w':World):Prop :=
 ∃ vA vE vF,e=.returned (.tuple #[srcV (o.getD zeroS).key (o.getD zeroS).type vA vE vF,.bool o.isSome])∧Perss w' vA (o.getD zeroS).author∧Perss w' vE (o.getD zeroS).editor∧Prs w' vF (o.getD zeroS).fields∧Kept w w'
set_option maxRecDepth 100000 in
set_option maxHeartbeats 3200000 in
theorem find_any (v:Value) (ss:List SrcT) (k:Bs) (w:World) (hv:Srcs w v ss) (hl:ss.length≤1100000) (hL:∀ s∈ss,s.author.length≤1100000∧s.editor.length≤1100000∧s.fields.length≤1100000) :
  Calls Tryz.prog 71 #[v,.string (bs k)] w (FindPost (findS ss k) w):=by
 have HV:=Lib.hid hv
 have HA:=Lib.hid (findS_at ss k)
 have HNO:=Lib.hid (findS_none ss k)
 obtain ⟨o,HO⟩:∃ o,Hid (findS ss k=o):=⟨_,rfl⟩
 rw [HO.out] at HA HNO ⊢
 obtain ⟨a,c,rfl,hc,h3⟩:=hv
 clear h3
 unfold FindPost
 go_enter Tryz.func71,Tryz.ntmps71
 go_wp2_with fail
 go_loopw [10] (fun i wr=>∃ n:Nat,n≤ss.length∧i=.int .i64 n∧Hid (∀ x∈ss.take n,(x.key == k)=false)∧Hid (Blk wr w.heap.size 50 #[.string (bs []),.string (bs []),.slice none 0 0,.slice none 0 0,.slice none 0 0])∧Hid (Kept w wr)) (fun i _=>ss.length - (intOf i).toNat)
 case atStart=>exact ⟨0,Nat.zero_le _,rfl,fun x h=>by simp at h,Blk.new w _ _,kept_alloc _ _⟩
 case round =>
  obtain ⟨n,hn,rfl,HN,HB,HKR⟩:=hrel
  have b0:wr.cell? ⟨w.heap.size,0,none⟩=some (.string (bs [])):=HB.out.cell 0 _ rfl
  have b1:wr.cell? ⟨w.heap.size,1,none⟩=some (.string (bs [])):=HB.out.cell 1 _ rfl
  have b2:wr.cell? ⟨w.heap.size,2,none⟩=some (.slice none 0 0):=HB.out.cell 2 _ rfl
  have b3:wr.cell? ⟨w.heap.size,3,none⟩=some (.slice none 0 0):=HB.out.cell 3 _ rfl
  have b4:wr.cell? ⟨w.heap.size,4,none⟩=some (.slice none 0 0):=HB.out.cell 4 _ rfl
  have f0:=HB.out.free 0
  have f1:=HB.out.free 1
  have f2:=HB.out.free 2
  have f3:=HB.out.free 3
  have f4:=HB.out.free 4
  have z0:=HB.out.lt
  by_cases hlt:n<ss.length
  ·obtain ⟨s,hx⟩:∃ x,ss[n]? = some x:=⟨_,List.getElem?_eq_getElem hlt⟩
   obtain ⟨a',c',hv',hc',h3⟩:=HV.out
   obtain ⟨rfl,hdead,rfl⟩:=Value.slice.inj hv'
   clear hdead hc'
   obtain ⟨g,o2,rfl,hg',hcc⟩:=h3 (by omega)
   obtain ⟨vA,vE,vF,t0,t1,t2,t3,t4,pA,pE,pF⟩:=hcc n s hx
   have d0:=(HKR.out.cell (p:=⟨g,_,none⟩) hg').trans t0
   have d1:=(HKR.out.cell (p:=⟨g,_,none⟩) hg').trans t1
   have d2:=(HKR.out.cell (p:=⟨g,_,none⟩) hg').trans t2
   have d3:=(HKR.out.cell (p:=⟨g,_,none⟩) hg').trans t3
   have d4:=(HKR.out.cell (p:=⟨g,_,none⟩) hg').trans t4
   clear t0 t1 t2 t3 t4
   have hg2:g<wr.heap.size:=Nat.lt_of_lt_of_le hg' HKR.out.size
   have HL:=Lib.hid (hL s (List.mem_of_getElem? hx))
   have HPS:=Lib.hid (And.intro pA (And.intro pE pF))
   have HAT:=Lib.hid (HA.out n s hx HN.out)
   obtain ⟨aA,cA,rfl,zA,zA'⟩:=pA
   obtain ⟨aE,cE,rfl,zE,zE'⟩:=pE
   obtain ⟨aF,cF,rfl,zF,zF'⟩:=pF
   clear zA zA' zE zE' zF zF'
   cases hxk:(s.key == k)
   ·have HS:Hid (∀ x∈ss.take (n+1),(x.key == k)=false):=by
     intro x hxm
     obtain ⟨hk',rfl⟩:=List.getElem?_eq_some_iff.1 hx
     rw [List.take_succ_eq_append_getElem hk'] at hxm
     rcases List.mem_append.1 hxm with h | h
     ·exact HN.out x h
     ·simp at h; subst h; exact hxk
    clear hcc h3 hv' hx HN HAT b0 b1 b2 b3 b4 f0 f1 f2 f3 f4 z0
    go_wp2_with fail
    go_roundw
    case rel=>exact ⟨n+1,by omega,by go_num,HS.out,HB.out.kept (kept_alloc _ _),HKR.out.trans (kept_alloc _ _)⟩
    case measure=>simp [intOf]; omega
   ·have HO2:=Lib.hid (HAT.out hxk)
    clear hcc h3 hv' hx HN HAT
    obtain rfl:s.key=k:=by simpa using hxk
    clear hxk
    have HCA:=Lib.hid (fun w h=>cloneP_any (.slice aA s.author.length cA) s.author w h HL.out.1)
    have HCE:=Lib.hid (fun w h=>cloneP_any (.slice aE s.editor.length cE) s.editor w h HL.out.2.1)
    have HCF:=Lib.hid (fun w h=>cloneF_any (.slice aF s.fields.length cF) s.fields w h HL.out.2.2)
    have HBK:=Lib.hid (Blk.new wr 50 #[.string (bs s.key),.string (bs s.type),.slice aA s.author.length cA,.slice aE s.editor.length cE,.slice aF s.fields.length cF])
    have HK0:=Lib.hid (HKR.out.trans (kept_alloc wr (.cells #[.string (bs s.key),.string (bs s.type),.slice aA s.author.length cA,.slice aE s.editor.length cE,.slice aF s.fields.length cF] 50)))
    have hwr:w.heap.size≤wr.heap.size:=HKR.out.size
    go_wp2_with fail
    refine (HCA.out _ (HPS.out.1.kept HK0.out)).mono ?_
    rintro e w1 ⟨v1,rfl,hp1,hf1,hk1⟩
    have HP1:=Lib.hid hp1
    have HF1:Hid (Fresh (wr.heap.size+1) v1):=by show Fresh _ _; simpa using hf1
    have HB1:=Lib.hid (HBK.out.kept hk1)
    have HR1:=Lib.hid ((HB.out.kept (kept_alloc wr _)).kept hk1)
    have HK1:=Lib.hid (HK0.out.trans hk1)
    have HKA:=Lib.hid (kept_set HK1.out wr.heap.size 2 v1 hwr)
    obtain ⟨a1,c1,rfl,y1,y2⟩:=hp1
    clear hk1 hf1 y1 y2 b0 b1 b2 b3 b4 f0 f1 f2 f3 f4 z0 d0 d1 d2 d3 d4 hg2 hg'
    have e2:w1.cell? ⟨wr.heap.size,2,none⟩=some (.slice aA s.author.length cA):=HB1.out.cell 2 _ rfl
    have e3:w1.cell? ⟨wr.heap.size,3,none⟩=some (.slice aE s.editor.length cE):=HB1.out.cell 3 _ rfl
    have f2:=HB1.out.free 2
    have z1:=HB1.out.lt
    go_wp2_with fail
    refine (HCE.out _ (HPS.out.2.1.kept HKA.out)).mono ?_
    rintro e w2 ⟨v2,rfl,hp2,hf2,hk2⟩
    have HP2:=Lib.hid hp2
    have HF2:Hid (Fresh (wr.heap.size+1) v2):=by
     show Fresh _ _
     intro g' o' n' c' he hn
     have:=hf2 g' o' n' c' he hn
     rw [size_setCell] at this; omega
    have HB2:Hid (Blk w2 wr.heap.size 50 #[.string (bs s.key),.string (bs s.type),.slice a1 s.author.length c1,.slice aE s.editor.length cE,.slice aF s.fields.length cF]):=(HB1.out.set 2 _).kept hk2
    have HR2:=Lib.hid ((HR1.out.other wr.heap.size 2 (.slice a1 s.author.length c1) (by have:=HB.out.lt; omega)).kept hk2)
    have HO2A:=Lib.hid ((only_set (S:=fun i=>i≤wr.heap.size) w1 wr.heap.size 2 (.slice a1 s.author.length c1) (Nat.le_refl _)).trans (Only.of_kept hk2))
    have HK2:=Lib.hid (HKA.out.trans hk2)
    have HKB:=Lib.hid (kept_set HK2.out wr.heap.size 3 v2 hwr)
    obtain ⟨a2,c2,rfl,y1,y2⟩:=hp2
    clear hk2 hf2 y1 y2 e2 e3 f2 z1
    have e3:w2.cell? ⟨wr.heap.size,3,none⟩=some (.slice aE s.editor.length cE):=HB2.out.cell 3 _ rfl
    have e4:w2.cell? ⟨wr.heap.size,4,none⟩=some (.slice aF s.fields.length cF):=HB2.out.cell 4 _ rfl
    have f3:=HB2.out.free 3
    have z2:=HB2.out.lt
    go_wp2_with fail
    refine (HCF.out _ (HPS.out.2.2.kept HKB.out)).mono ?_
    rintro e w3 ⟨v3,rfl,hp3,hf3,hk3⟩
    have HP3:=Lib.hid hp3
    have HF3:Hid (Fresh (wr.heap.size+1) v3):=by
     show Fresh _ _
     intro g' o' n' c' he hn
     have:=hf3 g' o' n' c' he hn
     rw [size_setCell] at this; omega
    have HB3:Hid (Blk w3 wr.heap.size 50 #[.string (bs s.key),.string (bs s.type),.slice a1 s.author.length c1,.slice a2 s.editor.length c2,.slice aF s.fields.length cF]):=(HB2.out.set 3 _).kept hk3
    have HR3:=Lib.hid ((HR2.out.other wr.heap.size 3 (.slice a2 s.editor.length c2) (by have:=HB.out.lt; omega)).kept hk3)
    have HO3A:=Lib.hid ((only_set (S:=fun i=>i≤wr.heap.size) w2 wr.heap.size 3 (.slice a2 s.editor.length c2) (Nat.le_refl _)).trans (Only.of_kept hk3))
    have HK3:=Lib.hid (HKB.out.trans hk3)
    have HKC:=Lib.hid (kept_set HK3.out wr.heap.size 4 v3 hwr)
    obtain ⟨a3,c3,rfl,y1,y2⟩:=hp3
    clear hk3 hf3 y1 y2 e3 e4 f3 z2
    have e0:w3.cell? ⟨wr.heap.size,0,none⟩=some (.string (bs s.key)):=HB3.out.cell 0 _ rfl
    have e1:w3.cell? ⟨wr.heap.size,1,none⟩=some (.string (bs s.type)):=HB3.out.cell 1 _ rfl
    have e2:w3.cell? ⟨wr.heap.size,2,none⟩=some (.slice a1 s.author.length c1):=HB3.out.cell 2 _ rfl
    have e3:w3.cell? ⟨wr.heap.size,3,none⟩=some (.slice a2 s.editor.length c2):=HB3.out.cell 3 _ rfl
    have e4:w3.cell? ⟨wr.heap.size,4,none⟩=some (.slice aF s.fields.length cF):=HB3.out.cell 4 _ rfl
    have f4:=HB3.out.free 4
    have z3:=HB3.out.lt
    have b0:w3.cell? ⟨w.heap.size,0,none⟩=some (.string (bs [])):=HR3.out.cell 0 _ rfl
    have b1:w3.cell? ⟨w.heap.size,1,none⟩=some (.string (bs [])):=HR3.out.cell 1 _ rfl
    have b2:w3.cell? ⟨w.heap.size,2,none⟩=some (.slice none 0 0):=HR3.out.cell 2 _ rfl
    have b3:w3.cell? ⟨w.heap.size,3,none⟩=some (.slice none 0 0):=HR3.out.cell 3 _ rfl
    have b4:w3.cell? ⟨w.heap.size,4,none⟩=some (.slice none 0 0):=HR3.out.cell 4 _ rfl
    have h0:=HR3.out.free 0
    have h1:=HR3.out.free 1
    have h2:=HR3.out.free 2
    have h3:=HR3.out.free 3
    have h4:=HR3.out.free 4
    have z4:=HR3.out.lt
    have hne:w.heap.size≠wr.heap.size:=by have:=HB.out.lt; omega
    go_wp2_with fail
    have HO4A:=Lib.hid ((only_set (S:=fun i=>i≤wr.heap.size) w3 wr.heap.size 4 (.slice a3 s.fields.length c3) (Nat.le_refl _)).trans (only5 (B:=w.heap.size) (v0:=.string (bs s.key)) (v1:=.string (bs s.type)) (v2:=.slice a1 s.author.length c1) (v3:=.slice a2 s.editor.length c2) (v4:=.slice a3 s.fields.length c3) hwr))
    have hK:=kept5 HKC.out (v0:=.string (bs s.key)) (v1:=.string (bs s.type)) (v2:=.slice a1 s.author.length c1) (v3:=.slice a2 s.editor.length c2) (v4:=.slice a3 s.fields.length c3)
    refine bodyPost_ret (v:=.tuple #[srcV s.key s.type (.slice a1 s.author.length c1) (.slice a2 s.editor.length c2) (.slice a3 s.fields.length c3),.bool true]) (by simp [results,Tryz.results71,go_sem,b0,b1,b2,b3,b4,z4,hne]) rfl ?_
    refine ⟨.slice a1 s.author.length c1,.slice a2 s.editor.length c2,.slice a3 s.fields.length c3,by rw [HO2.out]; rfl,?_,?_,?_,hK⟩
    ·rw [HO2.out]; exact HP1.out.away HF1.out ((HO2A.out.trans HO3A.out).trans HO4A.out) (fun i h=>by omega)
    ·rw [HO2.out]; exact HP2.out.away HF2.out (HO3A.out.trans HO4A.out) (fun i h=>by omega)
    ·rw [HO2.out]; exact HP3.out.away HF3.out HO4A.out (fun i h=>by omega)
  ·have HE:=Lib.hid (HNO.out (by have h:=HN.out; rw [List.take_of_length_le (by omega)] at h; exact h))
   go_wp2_with fail
   have hK:=kept5 HKR.out (v0:=.string (bs [])) (v1:=.string (bs [])) (v2:=.slice none 0 0) (v3:=.slice none 0 0) (v4:=.slice none 0 0)
   refine bodyPost_ret (v:=.tuple #[srcV [] [] (.slice none 0 0) (.slice none 0 0) (.slice none 0 0),.bool false]) (by simp [results,Tryz.results71,go_sem,b0,b1,b2,b3,b4,z0]) rfl ?_
   refine ⟨.slice none 0 0,.slice none 0 0,.slice none 0 0,by rw [HE.out]; rfl,?_,?_,?_,hK⟩
   ·rw [HE.out]; exact Perss.none_ _
   ·rw [HE.out]; exact Perss.none_ _
   ·rw [HE.out]; exact Prs.none_ _
end Go.Proofs.YtmcoomlkbgiboaaGreatDoor
