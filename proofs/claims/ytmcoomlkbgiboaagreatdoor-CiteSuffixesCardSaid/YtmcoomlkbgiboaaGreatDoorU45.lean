/- Suffixes of publisherref32. Conditions: lengths. -/
import Derived.Test.YtmcoomlkbgiboaaGreatDoorU44
import Derived.Test.YtmcoomlkbgiboaaGreatDoorU42
import Derived.Test.YtmcoomlkbgiboaaGreatDoorU36
import Derived.Test.YtmcoomlkbgiboaaGreatDoorU32
import Derived.Test.YtmcoomlkbgiboaaGreatDoorU26
import Derived.Test.YtmcoomlkbgiboaaGreatDoorU30
import Derived.Test.YtmcoomlkbgiboaaGreatDoorU01
import Derived.Test.YtmcoomlkbgiboaaGreatDoorRows
import Derived.ProofKit
import Derived.OpenShut
import Derived.Carry
import Derived.ChangeSame
import Derived.Deep.DeepHandedRow
import Derived.Lib.LaidTab
import Derived.Shelf.Vars
import Derived.Lib.ItoaNum
import Derived.Lib.Space
import Derived.Lib.SpaceR
import Derived.Stop.LaidErr
import Derived.MakeChecks
import Derived.Deep.DeepWitnessRowRef
set_option linter.all false
set_option maxRecDepth 100000
set_option maxHeartbeats 25600000
namespace Go.Proofs.YtmcoomlkbgiboaaGreatDoor
open Go.RowKit
def cP (y:StyT) (lang:Bs) (s:SrcT):Bs:=zhG s y lang []
def zr4 (xs:List CitX) (k:Nat):List Bs:=(zbX (xs.map (·.1)) (xs.take k)).out.map zcY
def zpT (xs:List CitX) (k:Nat):List Bs:=zpC (xs.take k) (zbX (xs.map (·.1)) (xs.take k)).out
theorem zAH {xs:List CitX} (hx:∀ x∈xs,none∈x.2) {k:Nat} {x:CitX} (h:xs[k]? = some x) :
  ∃ r m0:Nat,(m0=if zbE (xs.map (·.1)) x.1=true then 0 else 1)/\m0<=r/\r<=2 * xs.length+1/\zr4 xs (k+1)=zr4 xs k ++ [zcY r]/\zpT xs (k+1)=zpT xs k ++ [zeC x r]/\zm4 (xs.map (·.1)) (zpT xs k) k (zeC x r) /\
   (∀ j,m0<=j->j<r->¬ zm4 (xs.map (·.1)) (zpT xs k) k (zeC x j))/\(zr4 xs k).length=k/\(zpT xs k).length=k:=by
 obtain ⟨hk,rfl⟩:=List.getElem?_eq_some_iff.1 h;have e:xs=xs.take k ++ xs[k] :: xs.drop (k+1):=(by rw[<- List.drop_eq_getElem_cons hk,List.take_append_drop]);have ht:xs.take (k+1)=xs.take k ++ [xs[k]]:=(by rw[List.take_succ,h];rfl);have hl:(xs.take k).length=k:=(by rw[List.length_take];omega);have hS:=zpD xs hx (xs.take k) (xs[k] :: xs.drop (k+1)) e.symm;have hn:none∈xs[k].2:=hx _ (List.getElem_mem hk);have hol:(zbX (xs.map (·.1)) (xs.take k)).out.length=k:=(by rw[hS.len,hl]);have hto:(zpT xs k).length=k:=(by unfold zpT zpC;rw[List.length_zipWith,hol,hl];omega);have hoo:(zr4 xs k).length=k:=(by unfold zr4;rw[List.length_map,hol]);have step:∀ r,(zd1 (xs.map (·.1)) (zbX (xs.map (·.1)) (xs.take k)) xs[k]).out=(zbX (xs.map (·.1)) (xs.take k)).out ++ [r]->zr4 xs (k+1)=zr4 xs k ++ [zcY r]/\zpT xs (k+1)=zpT xs k ++ [zeC xs[k] r]:=by
  intro r hr;constructor
  ·unfold zr4;rw[ht,zfU,hr,List.map_append];rfl
  ·unfold zpT;rw[ht,zfU,hr,zl6 (by rw[hol,hl])]
 by_cases ha:zbE (xs.map (·.1)) xs[k].1=true
 ·refine ⟨0,0,by rw[if_pos ha],Nat.le_refl _,Nat.zero_le _,?_⟩;have h0:(zd1 (xs.map (·.1)) (zbX (xs.map (·.1)) (xs.take k)) xs[k]).out=(zbX (xs.map (·.1)) (xs.take k)).out ++ [0]:=(by unfold zd1;rw[if_pos ha]);obtain ⟨s1,s2⟩:=step 0 h0;refine ⟨s1,s2,?_,(fun j _ h=>absurd h (by omega)),hoo,hto⟩;have hf:=zv7 (done:=xs.take k) (rest:=xs.drop (k+1)) (x:=xs[k]) (by rw[<- e];exact hS) (by rw[<- e];exact ha);rw[<- e,hl] at hf;exact hf
 ·obtain ⟨r,h1,h2,h3,h4,h5⟩:=zz7 (done:=xs.take k) (rest:=xs.drop (k+1)) (x:=xs[k]) (by rw[<- e];exact hS) hn (by rw[<- e];exact ha);rw[<- e] at h1 h3 h4 h5;rw[hl] at h4 h5;obtain ⟨s1,s2⟩:=step r h1;exact ⟨r,1,by rw[if_neg ha],h2,h3,s1,s2,h4,fun j a b=>h5 j (by omega) b,hoo,hto⟩
def frB (ps tk:List Bs) (i:Nat) (t:Bs):Nat->Bool
 | 0=>!tk.contains t
 | j+1=>frB ps tk i t j && (decide (j=i) || !(ps[j]? == some t) || decide (1<ps.count t))
theorem zEU {ps tk:List Bs} {i:Nat} {t:Bs} {j:Nat} (h:frB ps tk i t j=false):frB ps tk i t (j+1)=false:=by unfold frB;rw[h];rfl
theorem zEV {ps tk:List Bs} {i:Nat} {t:Bs}:frB ps tk i t (i+1)=frB ps tk i t i:=by unfold frB;rw[decide_eq_true rfl,Bool.true_or,Bool.true_or,Bool.and_true];cases i <;> rfl
theorem zEW {ps tk:List Bs} {i:Nat} {t p:Bs} {j:Nat} (h:ps[j]? = some p) (hp:p≠t):frB ps tk i t (j+1)=frB ps tk i t j:=by
 have e:(ps[j]? == some t)=false:=(by rw[h,beq_eq_false_iff_ne];exact fun q=>hp (Option.some.inj q))
 conv=>lhs;unfold frB
 rw[e,Bool.not_false,Bool.or_true,Bool.true_or,Bool.and_true]
theorem zEd {ps tk:List Bs} {i:Nat} {t:Bs} {j:Nat} (h:ps[j]? = some t) (hj:j≠i):frB ps tk i t (j+1)=(frB ps tk i t j && decide (1<ps.count t)):=by
 have e:(ps[j]? == some t)=true:=(by rw[h];exact beq_self_eq_true _)
 conv=>lhs;unfold frB
 rw[e,decide_eq_false hj,Bool.not_true,Bool.or_false,Bool.false_or]
theorem zAI {ps tk:List Bs} {i:Nat} {t:Bs}:∀ n,frB ps tk i t n=true↔t ∉ tk/\∀ k p,k<n->ps[k]? = some p->k≠i->p≠t\/1<ps.count t
 | 0=>by
  unfold frB;rw[Bool.not_eq_true',<- Bool.not_eq_true,List.contains_iff_mem];exact ⟨fun h=>⟨h,fun k p q=>absurd q (by omega)⟩,fun h=>h.1⟩
 | n+1=>by
  have ih:=zAI (ps:=ps) (tk:=tk) (i:=i) (t:=t) n
  conv=>lhs;unfold frB
  rw[Bool.and_eq_true,ih,Bool.or_eq_true,Bool.or_eq_true,decide_eq_true_iff,decide_eq_true_iff,Bool.not_eq_true',beq_eq_false_iff_ne];constructor
  ·rintro ⟨⟨h1,h2⟩,h3⟩;refine ⟨h1,fun k p hk hp hi=>?_⟩;by_cases q:k<n
   ·exact h2 k p q hp hi
   ·obtain rfl:k=n:=(by omega);rcases h3 with (h3|h3)|h3
    ·exact absurd h3 hi
    ·exact .inl fun e=>h3 (by rw[hp,e])
    ·exact .inr h3
  ·rintro ⟨h1,h2⟩;refine ⟨⟨h1,fun k p hk hp hi=>h2 k p (by omega) hp hi⟩,?_⟩;by_cases q:n=i
   ·exact .inl (.inl q)
   ·cases hp:ps[n]? with
    | none=>exact .inl (.inr (by simp))
    | some p =>
     rcases h2 n p (by omega) hp q with h|h
     ·exact .inl (.inr fun e=>h (Option.some.inj e))
     ·exact .inr h
theorem zAJ {ps tk:List Bs} {i:Nat} {t:Bs}:frB ps tk i t ps.length=true↔zm4 ps tk i t:=by
 rw[zAI];exact ⟨fun h=>⟨h.1,fun k p hp hi=>h.2 k p (List.getElem?_eq_some_iff.1 hp).1 hp hi⟩,fun h=>⟨h.1,fun k p _ hp hi=>h.2 k p hp hi⟩⟩
theorem zuK {base:Nat} {w w7:World} {ov tv:Value} {tks:List Bs} {g7 c7 n7:Nat} {t:TypeId} (hT:OutG StrK 1 (fun _=>False) base t w tv tks) (hne:∀ g,ov.ownBlock=some g->tv.ownBlock≠some g) (hgrow:w.grownBy w7 ov.ownBlock) (hat:ov.ownBlock=some g7\/g7=w.heap.size) :
  OutG StrK 1 (fun _=>False) base t w7 tv tks/\∀ g,(Value.slice (some ⟨g7,0,none⟩) n7 c7).ownBlock=some g->tv.ownBlock≠some g:=by
 refine ⟨hT.only zfJ (Only.grown hgrow) (fun _ _ h=>h.elim) (fun g q e=>hne g e.symm q),fun g h q=>?_⟩;have e:g7=g:=(by simpa [Value.ownBlock] using h);subst e;rcases hat with r|r
 ·exact hne _ r q
 ·have:=(hT.blk _ q).2;omega
theorem zCK (xs:List CitX):zr4 xs xs.length=(zCa xs).map zcY:=by
 unfold zr4 zCa;rw[List.take_length]
def RdP (ps:List Bs) (xs:List CitX) (n k:Nat) (F:Nat->Bs):Prop :=
 ∃ r m0:Nat,(m0=if zbE ps (F 0)=true then 0 else 1)/\m0<=r/\r<=2 * n+1/\zr4 xs (k+1)=zr4 xs k ++ [zcY r]/\zpT xs (k+1)=zpT xs k ++ [F r]/\zm4 ps (zpT xs k) k (F r)/\(∀ j,m0<=j->j<r->¬ zm4 ps (zpT xs k) k (F j))/\(zr4 xs k).length=k/\(zpT xs k).length=k
theorem zEX {y:StyT} (he:zdZ y=0) (hn:y.numeric=false) (lang:Bs) (l:List SrcT) (k:Nat) (s:SrcT) (hs:l[k]? = some s):RdP (l.map (cP y lang)) (l.map (zn5 y lang)) l.length k (fun j=>zhG s y lang (zcY j)):=by
 have hx:∀ x∈l.map (zn5 y lang),none∈x.2:=fun x hx=>(by obtain ⟨s,_,rfl⟩:=List.mem_map.1 hx;exact zmE he hn lang s);have hp:(l.map (zn5 y lang)).map (·.1)=l.map (cP y lang):=(by rw[List.map_map];rfl);obtain ⟨r,m0,h1,h2,h3,h4,h5,h6,h7,h8,h9⟩:=zAH hx (k:=k) (x:=zn5 y lang s) (by rw[List.getElem?_map,hs];rfl);rw[hp] at h1 h6 h7;rw[List.length_map] at h3;have e:∀ j,zeC (zn5 y lang s) j=zhG s y lang (zcY j):=fun j=>(zC2 he hn lang s j).symm;have e0:(zn5 y lang s).1=zhG s y lang (zcY 0):=(by rw[<- e 0];rfl);rw[e0] at h1;rw[e r] at h5 h6;exact ⟨r,m0,h1,h2,h3,h4,h5,h6,(fun j a b=>by show ¬ zm4 _ _ _ (zhG s y lang (zcY j));rw[<- e j];exact h7 j a b),h8,h9⟩
theorem zwW (v vE:Value) (l:List SrcT) (y:StyT) (lang:Bs) (w:World) (hv:Srcs w v l) (hl:l.length<=8) (hfit:∀ s∈l,FitL s) (hE:Prs w vE y.entries) (hy:SmallY y) (hym : -9223372036854775808<=y.most/\y.most<=9223372036854775807) :
  Calls Tryz.prog 19 #[v,zdU vE y,.string (bs lang)] w (SufPo (zmF y lang l) w):=by
 obtain ⟨i0,hi,hz0,hz1,hz2⟩:=info_parts Tryz.infoStr;obtain ⟨a,c,rfl,hc⟩:=(show ∃ a c,v=.slice a l.length c/\l.length<=c by obtain ⟨a,c,e,q,_⟩:=hv;exact ⟨a,c,e,q⟩);obtain ⟨aE,cE,rfl,lE⟩:=(show ∃ a c,vE=.slice a y.entries.length c/\y.entries.length<=c by obtain ⟨a,c,e,q,_⟩:=hE;exact ⟨a,c,e,q⟩);have HK0:=Hd (zaA w (.cells (zaD (.slice aE y.entries.length cE) y) 33));have HY0:=Hd (Blk.new w 33 (zaD (.slice aE y.entries.length cE) y));have HCH:=Hd (fun w' (k:Kept w w')=>zrX (.slice aE y.entries.length cE) y w' hy (hE.kept k));have HFI:=Hd (fun (s:SrcT) (suf:Bs) vA vX vF w' (k:Kept w w') (h1:Perss w' vA s.author) (h2:Perss w' vX s.editor) (h3:Prs w' vF s.fields) (hf:FitL s) (hs:suf.length<=1000)=>zpP vA vX vF (.slice aE y.entries.length cE) s y lang suf w' rfl (by have:=hy;unfold SmallY at this;omega) hym h1 h2 h3 hf hs);have HV:=Hd hv;have HFT:=Hd hfit;have HFIN0:Hid (zdZ y≠0->∀ w',Kept w w'->SufPo (zmF y lang l) w (.returned (.tuple #[.slice none 0 0,.int .i64 (zdZ y)])) w'):=fun h w' k=>by
  unfold zmF;rw[if_neg h];exact ⟨_,rfl,⟨none,0,rfl,Nat.le_refl _,fun h=>absurd h (by simp)⟩,k⟩
 have HFIN1:Hid (zdZ y=0->∀ u w',Strs w' u (if y.numeric=true then l.map fun _=>[] else (zCa (l.map (zn5 y lang))).map zcY)->Kept w w'->SufPo (zmF y lang l) w (.returned (.tuple #[u,.int .i64 0])) w'):=fun h u w' h1 k=>by
  unfold zmF;rw[if_pos h];exact ⟨_,rfl,h1,k⟩
 generalize SufPo (zmF y lang l) w=P at *;clear hv hfit hE;obtain ⟨B,HBB⟩:∃ B,Hid (w.heap.size=B):=⟨_,rfl⟩;have HB10:=Hd (zcC HY0.out);unfold zdU zaD at HCH HFI;unfold zhB at HFI;unfold zaD at HK0;unfold zdU zaD;go_enter Tryz.func19,Tryz.ntmps19;go_upto_region 1 with fail;rw[HBB.out] at HY0 HB10;rw[HBB.out];unfold zaD at HY0 HB10;generalize w.alloc _=w0 at *;obtain ⟨⟨b0,b1,b2,b3,b4,b5,b6,b7,b8,b9⟩,bz⟩:=HB10.out;have HCX:=Hd (HCH.out w0 HK0.out);clear HCH;go_wp2_with fail;refine HCX.out.mono ?_;rintro e w1 ⟨rfl,hk1⟩;have HK1:=Hd (HK0.out.trans hk1);have HY1:=Hd (HY0.out.kept hk1);clear hk1 HCX HY0 HK0 HB10 b0 b1 b2 b3 b4 b5 b6 b7 b8 b9 bz;by_cases he:¬ zdZ y=0
 ·have hne:(zdZ y == 0)=false:=(by rw[beq_eq_false_iff_ne];exact he);have hnb:(zdZ y != 0)=true:=(by rw[bne_iff_ne];exact he);have HF:=Hd (HFIN0.out he w1 HK1.out);generalize zdZ y=E at *;go_wp2_with fail
  (try go_ret2)
  exact HF.out
 have he:zdZ y=0:=Decidable.not_not.1 he;have HHE:=Hd he;have HFN:=Hd (HFIN1.out he);rw[he];clear HFIN0 HFIN1 he;have HV1:=Hd (HV.out.kept HK1.out);obtain ⟨nu,HNU⟩:∃ nu,Hid (y.numeric=nu):=⟨_,rfl⟩;rw[HNU.out] at HFI HY1;clear HV;go_wp2_with fail;go_loopw [9,12] (fun pv i wr=>∃ k:Nat,k<=l.length/\i=.int .i64 k/\Hid (OutG StrK 1 (fun _=>False) w1.heap.size 9 wr pv ((l.take k).map (cP y lang)))/\Hid (Kept w1 wr)) (fun _ i _=>l.length - (intOf i).toNat)
 case atStart=>exact ⟨0,Nat.zero_le _,rfl,OutG.nil _ _ _ _ _ _,Kept.refl _⟩
 case round =>
  obtain ⟨k,hk,rfl,HGR,HKR⟩:=hrel;by_cases hlt:k<l.length
  ·obtain ⟨s,hs⟩:∃ s,l[k]? = some s:=⟨_,List.getElem?_eq_getElem hlt⟩;have hsf:=HFT.out s (List.mem_of_getElem? hs);have HT:Hid ((l.take (k+1)).map (cP y lang)=(l.take k).map (cP y lang) ++ [zhG s y lang []]):=(by show _=_;rw[List.take_succ,hs,List.map_append];rfl);obtain ⟨g,o,vA,vX,vF,rfl,hg,d0,d1,d2,d3,d4,pA,pX,pF⟩:=Srcs.at_ (HV1.out.kept HKR.out) k s hs;obtain ⟨pa,qa,rfl,la⟩:=pA.shape;obtain ⟨pe,qe,rfl,le⟩:=pX.shape;obtain ⟨pf,qf,rfl,lf⟩:=pF.shape;have HFX:Hid (∀ suf w',Kept wr w'->suf.length<=1000->Calls Tryz.prog 51 #[.agg #[.string (bs s.key),.string (bs s.type),.slice pa s.author.length qa,.slice pe s.editor.length qe,.slice pf s.fields.length qf],.agg #[.string (bs y.name),.bool nu,.string (bs y.sort),.string (bs y.cite),.string (bs y.bare),.string (bs y.between),.string (bs y.begin_),.string (bs y.end_),.int .i64 y.most,.slice aE y.entries.length cE],.string (bs lang),.string (bs suf),.int .i64 0] w' fun e w''=>e=.returned (.string (bs (zhG s y lang suf)))/\Kept w' w''):=fun suf w' kk hsu=>HFI.out s suf _ _ _ w' (HK1.out.trans (HKR.out.trans kk)) (pA.kept kk) (pX.kept kk) (pF.kept kk) hsf hsu;have HYR:=Hd (HY1.out.kept HKR.out);have HCC:Hid (∀ w',Kept wr w'->(w'.cell? ⟨B,0,none⟩=some (.string (bs y.name))/\w'.cell? ⟨B,1,none⟩=some (.bool nu)/\w'.cell? ⟨B,2,none⟩=some (.string (bs y.sort))/\w'.cell? ⟨B,3,none⟩=some (.string (bs y.cite))/\w'.cell? ⟨B,4,none⟩=some (.string (bs y.bare))/\w'.cell? ⟨B,5,none⟩=some (.string (bs y.between))/\w'.cell? ⟨B,6,none⟩=some (.string (bs y.begin_))/\w'.cell? ⟨B,7,none⟩=some (.string (bs y.end_))/\w'.cell? ⟨B,8,none⟩=some (.int .i64 y.most)/\w'.cell? ⟨B,9,none⟩=some (.slice aE y.entries.length cE))/\(w'.cell? ⟨g,o+k * 5,none⟩=some (.string (bs s.key))/\w'.cell? ⟨g,o+k * 5+1,none⟩=some (.string (bs s.type))/\w'.cell? ⟨g,o+k * 5+2,none⟩=some (.slice pa s.author.length qa)/\w'.cell? ⟨g,o+k * 5+3,none⟩=some (.slice pe s.editor.length qe)/\w'.cell? ⟨g,o+k * 5+4,none⟩=some (.slice pf s.fields.length qf))/\(B<w'.heap.size/\g<w'.heap.size)/\Kept wr w'):=fun w' h =>
    ⟨⟨(HYR.out.kept h).cell 0 _ rfl,(HYR.out.kept h).cell 1 _ rfl,(HYR.out.kept h).cell 2 _ rfl,(HYR.out.kept h).cell 3 _ rfl,(HYR.out.kept h).cell 4 _ rfl,(HYR.out.kept h).cell 5 _ rfl,(HYR.out.kept h).cell 6 _ rfl,(HYR.out.kept h).cell 7 _ rfl,(HYR.out.kept h).cell 8 _ rfl,(HYR.out.kept h).cell 9 _ rfl⟩,⟨(h.cell (p:=⟨g,o+k * 5,none⟩) hg).trans d0,(h.cell (p:=⟨g,o+k * 5+1,none⟩) hg).trans d1,(h.cell (p:=⟨g,o+k * 5+2,none⟩) hg).trans d2,(h.cell (p:=⟨g,o+k * 5+3,none⟩) hg).trans d3,(h.cell (p:=⟨g,o+k * 5+4,none⟩) hg).trans d4⟩,⟨(HYR.out.kept h).lt,Nat.lt_of_lt_of_le hg h.size⟩,h⟩
   clear d0 d1 d2 d3 d4 pA pX pF;obtain ⟨tk,HTK⟩:∃ tk,Hid (zhG s y lang []=tk):=⟨_,rfl⟩;have HFY:=Hd (fun w' kk=>HFX.out [] w' kk (by simp));rw[HTK.out] at HT HFY;obtain ⟨us,HUS⟩:∃ us,Hid ((l.take k).map (cP y lang)=us):=⟨_,rfl⟩;have hul:us.length<=8:=(by rw[<- HUS.out,List.length_map,List.length_take];omega);rw[HUS.out] at HGR HT;clear hs HFX hsf;obtain ⟨⟨y0,y1,y2,y3,y4,y5,y6,y7,y8,y9⟩,⟨d0,d1,d2,d3,d4⟩,⟨zB,zg⟩,-⟩:=HCC.out wr (Kept.refl _);have hkd:Kept wr wr.drew:=zaB wr 1;obtain ⟨ar,cr,rfl,hcr,hmr⟩:=HGR.out.form;go_wp2_with fail
   go_region_law (first
    | (go_simp;go_at_call 51;refine (HFY.out _ hkd).mono ?_;rintro e w3 ⟨rfl,hk3⟩;have kA:=hkd.trans hk3;have hka:=kA.trans (zaA w3 (.cells #[.string (bs tk)] 9));have HG6:=Hd (HGR.out.kept zfJ hka);have HROW:=Hd (Blk.new w3 9 #[.string (bs tk)]);have HKA:=Hd (HKR.out.trans hka);have hb6:w1.heap.size<=(w3.alloc (.cells #[.string (bs tk)] 9)).heap.size:=(HKR.out.trans hka).size;clear hk3 hka)
    | (refine zeJ zfJ rfl (.tmp 30) (.tmp 38) 29 rfl i0 _ 16 Tryz.underlying29 hi hz0 hz1 hz2 rfl (by omega) (by rfl) HG6.out w3.heap.size [.string (bs tk)] tk (by rfl) (fun j u hu=>HROW.out.cell j u (by rw[<- Array.getElem?_toList];exact hu)) rfl rfl (by unfold maxLen;omega) (by omega) hb6 _ rfl ?_;intro g7 c7' w7 hout7 hgrow7 hat7 hlt7;have HOUT8:Hid (OutG StrK 1 (fun _=>False) w1.heap.size 9 w7 (.slice (some ⟨g7,0,none⟩) (us.length+1) c7') ((l.take (k+1)).map (cP y lang))):=(by rw[HT.out];exact hout7);have HK7:Hid (Kept w1 w7):=HKA.out.trans' ((Only.grown hgrow7).below HKA.out.size (fun i q=>(HG6.out.blk i q.symm).1));clear hout7 hgrow7 hat7 hlt7))
   all_goals
    clear HROW HG6 HKA HGR HKR HFY HCC kA hkd y0 y1 y2 y3 y4 y5 y6 y7 y8 y9 d0 d1 d2 d3 d4 zB zg hg;go_wp2_with fail;go_roundw
    case rel=>exact ⟨k+1,by omega,by go_num,HOUT8.out,HK7.out⟩
    case measure=>simp [intOf];omega
  ·obtain rfl:k=l.length:=(by omega);rw[List.take_length] at HGR;obtain ⟨wA,hren⟩:∃ x,x=wr:=⟨_,rfl⟩;subst hren;obtain ⟨ps,HPS⟩:∃ ps,Hid (l.map (cP y lang)=ps):=⟨_,rfl⟩;have HPL:Hid (ps.length=l.length):=(by show _=_;rw[<- HPS.out,List.length_map]);rw[HPS.out] at HGR;have HP1:=Hd (Strs.outO HGR.out);obtain ⟨ap,cp,rfl,hcp,hmp⟩:=HGR.out.form;have hps:ps.length<=8:=(by rw[HPL.out];exact hl);clear HGR hcp hmp;cases nu with
   | true =>
    have HF:Hid (∀ u w',Strs w' u (List.replicate l.length [])->Kept w w'->P (.returned (.tuple #[u,.int .i64 0])) w'):=fun u w' h k=>HFN.out u w' (by rw[if_pos HNU.out,zmJ];exact h) k;have c1:=fun wx (k:Kept wA wx)=>((HY1.out.kept HKR.out).kept k).cell 1 _ rfl;have cz:=fun wx (k:Kept wA wx)=>((HY1.out.kept HKR.out).kept k).lt;have HC1:=Hd (fun wx k=>And.intro (c1 wx k) (cz wx k));clear c1 cz HFI HFN HNU HHE HPS;go_wp2_with fail;go_loopw [10,13] (fun ov i wx=>∃ k:Nat,k<=l.length/\i=.int .i64 k/\Hid (OutG StrK 1 (fun _=>False) wA.heap.size 9 wx ov (List.replicate k []))/\Hid (Kept wA wx)) (fun _ i _=>l.length - (intOf i).toNat)
    case atStart=>exact ⟨0,Nat.zero_le _,rfl,OutG.nil _ _ _ _ _ _,Kept.refl _⟩
    case round =>
     obtain ⟨k,hk,rfl,HGX,HKX⟩:=hrel;obtain ⟨wx,hren⟩:∃ x,x=wr:=⟨_,rfl⟩;subst hren;by_cases hlt:k<l.length
     ·obtain ⟨c1,cz⟩:=HC1.out _ HKX.out;have HROW:=Hd (Blk.new wx 9 #[.string (bs [])]);have HKA:=Hd (zaA wx (.cells #[.string (bs [])] 9));have HG6:=Hd (HGX.out.kept zfJ HKA.out);obtain ⟨us,HUS⟩:∃ us:List Bs,Hid (List.replicate k []=us):=⟨_,rfl⟩;have hul:us.length<=8:=(by rw[<- HUS.out,List.length_replicate];omega);have HT:Hid (List.replicate (k+1) []=us ++ [[]]):=(by show _=_;rw[List.replicate_succ',HUS.out]);rw[HUS.out] at HG6 HGX;obtain ⟨ar,cr,rfl,hcr,hmr⟩:=HGX.out.form;have hb6:wA.heap.size<=(wx.alloc (.cells #[.string (bs [])] 9)).heap.size:=(HKX.out.trans HKA.out).size;go_wp2_with (at_builtin;refine zjE ?_);refine Hd ?_;refine zaQ zfJ rfl (.tmp 48) (.tmp 49) 29 rfl i0 _ 16 Tryz.underlying29 hi hz0 hz1 hz2 rfl (by omega) (by rfl) HG6.out _ [.string (bs [])] [] (by rfl) (fun j u hu=>HROW.out.cell j u (by rw[<- Array.getElem?_toList];exact hu)) rfl rfl (by unfold maxLen;omega) (by omega) hb6 _ rfl ?_;intro g7 c7' w7 hout7 hgrow7 hat7 hlt7;have HOUT8:Hid (OutG StrK 1 (fun _=>False) wA.heap.size 9 w7 (.slice (some ⟨g7,0,none⟩) (us.length+1) c7') (List.replicate (k+1) [])):=(by rw[HT.out];exact hout7);have HK7:Hid (Kept wA w7):=(HKX.out.trans HKA.out).trans' ((Only.grown hgrow7).below (HKX.out.trans HKA.out).size (fun i q=>(HG6.out.blk i q.symm).1));clear hout7 hgrow7 hat7 hlt7 HG6 HROW HKA HGX HKX c1 cz hb6 HUS HT;go_wp2_with fail;go_roundw
      case rel=>exact ⟨k+1,by omega,by go_num,HOUT8.out,HK7.out⟩
      case measure=>simp [intOf];omega
     ·obtain rfl:k=l.length:=(by omega);have HF2:=Hd (HF.out _ _ (Strs.outO HGX.out) ((HK1.out.trans HKR.out).trans HKX.out));obtain ⟨ar,cr,rfl,hcr,hmr⟩:=HGX.out.form;clear HF HGX HKX;go_wp2_with fail
      (try go_ret2)
      exact HF2.out
   | false =>
    have HF:Hid (∀ u w',Strs w' u (zr4 (l.map (zn5 y lang)) l.length)->Kept w w'->P (.returned (.tuple #[u,.int .i64 0])) w'):=fun u w' h k=>HFN.out u w' (by
     rw[if_neg (by rw[HNU.out];exact Bool.false_ne_true),<- zCK,List.length_map];exact h) k
    have HRD:=Hd (zEX HHE.out HNU.out lang l);rw[HPS.out] at HRD;have HPA:Hid (∀ (k:Nat) x,l[k]? = some x->ps[k]? = some (zhG x y lang [])):=fun k x h=>by
     rw[<- HPS.out,List.getElem?_map,h];rfl
    obtain ⟨xs,HXS⟩:∃ xs,Hid (l.map (zn5 y lang)=xs):=⟨_,rfl⟩;rw[HXS.out] at HRD HF;clear HFN HNU HHE HPS;go_wp2_with fail;go_loopw [10,11,13] (fun ov tv i wx=>∃ k:Nat,k<=l.length/\i=.int .i64 k/\Hid (OutG StrK 1 (fun _=>False) wA.heap.size 9 wx ov (zr4 xs k))/\Hid (OutG StrK 1 (fun _=>False) wA.heap.size 9 wx tv (zpT xs k))/\Hid (∀ g,ov.ownBlock=some g->tv.ownBlock≠some g)/\Hid (Kept wA wx)) (fun _ _ i _=>l.length - (intOf i).toNat)
    case atStart=>exact ⟨0,Nat.zero_le _,rfl,OutG.nil _ _ _ _ _ _,OutG.nil _ _ _ _ _ _,(fun _ h=>by cases h),Kept.refl _⟩
    case round =>
     obtain ⟨k,hk,rfl,HGO,HGT,HNE,HKT⟩:=hrel;obtain ⟨wx,hren⟩:∃ x,x=wr:=⟨_,rfl⟩;subst hren;by_cases hlt:k<l.length
     ·obtain ⟨s,hs⟩:∃ s,l[k]? = some s:=⟨_,List.getElem?_eq_getElem hlt⟩;have hsf:=HFT.out s (List.mem_of_getElem? hs);obtain ⟨r,m0,hm0,hmr,hr17,e1,e2,hfr,hnf,ho0,ht0⟩:=HRD.out k s hs;have HPK:=Hd (HPA.out k s hs);obtain ⟨g,o,vA,vX,vF,rfl,hg,d0,d1,d2,d3,d4,pA,pX,pF⟩:=Srcs.at_ (HV1.out.kept HKR.out) k s hs;obtain ⟨pa,qa,rfl,la⟩:=pA.shape;obtain ⟨pe,qe,rfl,le⟩:=pX.shape;obtain ⟨pf,qf,rfl,lf⟩:=pF.shape;have HFX:Hid (∀ suf w',Kept wA w'->suf.length<=1000->Calls Tryz.prog 51 #[.agg #[.string (bs s.key),.string (bs s.type),.slice pa s.author.length qa,.slice pe s.editor.length qe,.slice pf s.fields.length qf],.agg #[.string (bs y.name),.bool false,.string (bs y.sort),.string (bs y.cite),.string (bs y.bare),.string (bs y.between),.string (bs y.begin_),.string (bs y.end_),.int .i64 y.most,.slice aE y.entries.length cE],.string (bs lang),.string (bs suf),.int .i64 0] w' fun e w''=>e=.returned (.string (bs (zhG s y lang suf)))/\Kept w' w''):=fun suf w' kk hsu=>HFI.out s suf _ _ _ w' (HK1.out.trans (HKR.out.trans kk)) (pA.kept kk) (pX.kept kk) (pF.kept kk) hsf hsu;have HYR:=Hd (HY1.out.kept HKR.out);have HCC:Hid (∀ w',Kept wA w'->(w'.cell? ⟨B,0,none⟩=some (.string (bs y.name))/\w'.cell? ⟨B,1,none⟩=some (.bool false)/\w'.cell? ⟨B,2,none⟩=some (.string (bs y.sort))/\w'.cell? ⟨B,3,none⟩=some (.string (bs y.cite))/\w'.cell? ⟨B,4,none⟩=some (.string (bs y.bare))/\w'.cell? ⟨B,5,none⟩=some (.string (bs y.between))/\w'.cell? ⟨B,6,none⟩=some (.string (bs y.begin_))/\w'.cell? ⟨B,7,none⟩=some (.string (bs y.end_))/\w'.cell? ⟨B,8,none⟩=some (.int .i64 y.most)/\w'.cell? ⟨B,9,none⟩=some (.slice aE y.entries.length cE))/\(w'.cell? ⟨g,o+k * 5,none⟩=some (.string (bs s.key))/\w'.cell? ⟨g,o+k * 5+1,none⟩=some (.string (bs s.type))/\w'.cell? ⟨g,o+k * 5+2,none⟩=some (.slice pa s.author.length qa)/\w'.cell? ⟨g,o+k * 5+3,none⟩=some (.slice pe s.editor.length qe)/\w'.cell? ⟨g,o+k * 5+4,none⟩=some (.slice pf s.fields.length qf))/\(B<w'.heap.size/\g<w'.heap.size)/\Kept wA w'):=fun w' h =>
       ⟨⟨(HYR.out.kept h).cell 0 _ rfl,(HYR.out.kept h).cell 1 _ rfl,(HYR.out.kept h).cell 2 _ rfl,(HYR.out.kept h).cell 3 _ rfl,(HYR.out.kept h).cell 4 _ rfl,(HYR.out.kept h).cell 5 _ rfl,(HYR.out.kept h).cell 6 _ rfl,(HYR.out.kept h).cell 7 _ rfl,(HYR.out.kept h).cell 8 _ rfl,(HYR.out.kept h).cell 9 _ rfl⟩,⟨(h.cell (p:=⟨g,o+k * 5,none⟩) hg).trans d0,(h.cell (p:=⟨g,o+k * 5+1,none⟩) hg).trans d1,(h.cell (p:=⟨g,o+k * 5+2,none⟩) hg).trans d2,(h.cell (p:=⟨g,o+k * 5+3,none⟩) hg).trans d3,(h.cell (p:=⟨g,o+k * 5+4,none⟩) hg).trans d4⟩,⟨(HYR.out.kept h).lt,Nat.lt_of_lt_of_le hg h.size⟩,h⟩
      clear d0 d1 d2 d3 d4 pA pX pF;have HFX2:=Hd (fun j w' kk (hj:j<=17)=>HFX.out (zcY j) w' kk (by have:=zuD j;omega));obtain ⟨F,HFE⟩:∃ F:Nat->Bs,Hid ((fun j=>zhG s y lang (zcY j))=F):=⟨_,rfl⟩;have HFY:Hid (∀ j w',Kept wA w'->j<=17->Calls Tryz.prog 51 #[.agg #[.string (bs s.key),.string (bs s.type),.slice pa s.author.length qa,.slice pe s.editor.length qe,.slice pf s.fields.length qf],.agg #[.string (bs y.name),.bool false,.string (bs y.sort),.string (bs y.cite),.string (bs y.bare),.string (bs y.between),.string (bs y.begin_),.string (bs y.end_),.int .i64 y.most,.slice aE y.entries.length cE],.string (bs lang),.string (bs (zcY j)),.int .i64 0] w' fun e w''=>e=.returned (.string (bs (F j)))/\Kept w' w''):=fun j w' kk hj=>(by rw[<- HFE.out];exact HFX2.out j w' kk hj);have HF0:Hid (zhG s y lang []=F 0):=(by show _=_;rw[<- HFE.out];show _=zhG s y lang (zcY 0);rw[zmL]);simp only[HFE.out] at hm0 e2 hfr hnf;have ef:∀ j,zhG s y lang (zcY j)=F j:=fun j=>(by rw[<- HFE.out]);simp only[ef] at e2 hfr hnf hm0;rw[HF0.out] at HPK;have HE1:=Hd e1;have HE2:=Hd e2;have HFR:=Hd hfr;have HNF:=Hd hnf;obtain ⟨us,HUS⟩:∃ us,Hid (zr4 xs k=us):=⟨_,rfl⟩;obtain ⟨ts,HTS⟩:∃ ts,Hid (zpT xs k=ts):=⟨_,rfl⟩;rw[HUS.out] at HGO HE1 ho0;rw[HTS.out] at HGT HE2 HFR HNF ht0;have hul:us.length<=8:=(by omega);have htl:ts.length<=8:=(by omega);clear hs hsf HFX HFX2 ef HFE HF0 e1 e2 hfr hnf HUS HTS ho0 ht0;obtain ⟨⟨y0,y1,y2,y3,y4,y5,y6,y7,y8,y9⟩,⟨d0,d1,d2,d3,d4⟩,⟨zB,zg⟩,-⟩:=HCC.out wx HKT.out;obtain ⟨gp,op,rfl,hgp,p0,pz,-⟩:=(HP1.out.kept HKT.out).cell_of k _ HPK.out;have hkp:k<ps.length:=(by rw[HPL.out];exact hlt);have HCT:=Hd (zj5 _ ps (F 0) wx (HP1.out.kept HKT.out) (by omega));have hc1:1<=ps.count (F 0):=List.one_le_count_iff.2 (List.mem_of_getElem? HPK.out);have hal:(m0=0/\ps.count (F 0)=1)\/(m0=1/\1<ps.count (F 0)):=by
       unfold zbE at hm0
       split at hm0
       ·rename_i q;exact .inl ⟨hm0,by simpa using q⟩
       ·rename_i q;exact .inr ⟨hm0,by simp at q;omega⟩
      obtain ⟨ao,co,rfl,hco,hmo⟩:=HGO.out.form;obtain ⟨at_,ct,rfl,hct,hmt⟩:=HGT.out.form;generalize ps.count (F 0)=n0 at *;clear hm0 hc1 HPK;go_wp2_with fail;refine HCT.out.mono ?_;rintro e w3 ⟨rfl,hk3⟩;have HK3:=Hd (HKT.out.trans hk3);have HX3:=Hd hk3;clear hk3 HCT y0 y1 y2 y3 y4 y5 y6 y7 y8 y9 d0 d1 d2 d3 d4 zB zg p0 pz hgp;rcases hal with ⟨h0,hn0⟩|⟨h0,hn0⟩
      case' inl =>
       have HL:Hid (zcY m0=[]):=(by show _=_;rw[h0,zmL]);have hg:((n0:Int) > 1)=False:=by rw[hn0];simp
      case' inr =>
       have HL:Hid (zcY m0=[97]):=(by show _=_;rw[h0,ziT]);have hg:((n0:Int) > 1)=True:=by simp;omega
      all_goals
       go_wp2_with fail
       (try simp only[zcO])
       clear h0 hn0 hg;go_loopw [14,15] (fun sv nv wq=>∃ q:Nat,m0+q<=r/\sv=.string (bs (zcY (m0+q)))/\nv=.int .i64 (q:Nat)/\Hid (Kept wx wq)) (fun _ n _=>2 * l.length+2 - (intOf n).toNat)
       case atStart=>exact ⟨0,hmr,by rw[Nat.add_zero,HL.out],rfl,HX3.out⟩
       case round =>
        obtain ⟨q,hq,rfl,rfl,HKQ⟩:=hrel;obtain ⟨wq,hren⟩:∃ x,x=wr:=⟨_,rfl⟩;subst hren;have HWQ:=Hd (HKT.out.trans HKQ.out);obtain ⟨⟨y0,y1,y2,y3,y4,y5,y6,y7,y8,y9⟩,⟨d0,d1,d2,d3,d4⟩,⟨zB,zg⟩,-⟩:=HCC.out wq HWQ.out;have hkd:Kept wq wq.drew:=zaB wq 1;have HFQ:=Hd (fun w' (kk:Kept wA w')=>HFY.out (m0+q) w' kk (by omega));obtain ⟨t,HTT⟩:∃ t,Hid (F (m0+q)=t):=⟨_,rfl⟩;obtain ⟨sq,HSQ⟩:∃ sq,Hid (zcY (m0+q)=sq):=⟨_,rfl⟩;rw[HTT.out,HSQ.out] at HFQ;rw[HSQ.out];have HKD:=Hd (HWQ.out.trans hkd);have HKD2:=Hd (HKQ.out.trans hkd);clear hkd;go_wp2_with fail
        go_region_law (go_simp;go_at_call 51;refine (HFQ.out _ HKD.out).mono ?_;rintro e w4 ⟨rfl,hk4⟩;have HK4:=Hd (HKD2.out.trans hk4);clear hk4)
        all_goals
         clear y0 y1 y2 y3 y4 y5 y6 y7 y8 y9 d0 d1 d2 d3 d4 zB zg HKD HKD2 HWQ HKQ;have HHS:=Hd (zv3 _ ts t w4 ((Strs.outO HGT.out).kept HK4.out) (by omega));go_wp2_with fail;refine HHS.out.mono ?_;rintro e w5 ⟨rfl,hk5⟩;have HK5:=Hd (HK4.out.trans hk5);clear hk5 HHS HK4;go_wp2_with fail;go_loopw [17,18] (fun fv jv wz=>∃ j:Nat,j<=l.length/\jv=.int .i64 j/\fv=.bool (frB ps ts k t j)/\Hid (Kept wx wz)) (fun _ j _=>l.length - (intOf j).toNat)
         case atStart=>exact ⟨0,Nat.zero_le _,rfl,by (show _=Value.bool (!ts.contains t);simp),HK5.out⟩
         case round =>
          clear HK5;obtain ⟨j,hj,rfl,rfl,HKZ⟩:=hrel;obtain ⟨wz,hren⟩:∃ x,x=wr:=⟨_,rfl⟩;subst hren;have HWZ:=Hd (HKT.out.trans HKZ.out);by_cases hjl:j<l.length
          ·obtain ⟨p,hp⟩:∃ p,ps[j]? = some p:=⟨_,List.getElem?_eq_getElem (by rw[HPL.out];exact hjl)⟩;obtain ⟨gj,oj,ej,hgj,pj,pjz,-⟩:=(HP1.out.kept HWZ.out).cell_of j _ hp;cases ej;have hjp:j<ps.length:=(by rw[HPL.out];exact hjl);have HCZ:=Hd (zj5 _ ps t wz (HP1.out.kept HWZ.out) (by omega));have HPJ:=Hd hp;cases hb:frB ps ts k t j with
           | false =>
            have HB:=Hd (zEU hb);clear hp hb HCZ HPJ;go_wp2_with fail;go_roundw
            case rel=>exact ⟨j+1,by omega,by go_num,by rw[HB.out],HKZ.out⟩
            case measure=>simp [intOf];omega
           | true =>
            have HBT:=Hd hb;clear hp hb;by_cases hjk:j=k
            ·have HB:Hid (frB ps ts k t (j+1)=true):=(by show _=_;rw[<- HBT.out];subst hjk;exact zEV);have hjb:((j:Int) == (k:Int))=true:=(by simp [hjk]);clear hjk;go_wp2_with fail;go_roundw
             case rel=>exact ⟨j+1,by omega,by go_num,by rw[HB.out],HKZ.out⟩
             case measure=>simp [intOf];omega
            ·have hjb:((j:Int) == (k:Int))=false:=(by simp;omega);by_cases hpt:p=t
             ·have HBC:=Hd (zEd (tk:=ts) (by rw[HPJ.out,hpt]) hjk);rw[HBT.out,Bool.true_and] at HBC;subst hpt;obtain ⟨n1,HN1⟩:∃ n,Hid (ps.count p=n):=⟨_,rfl⟩;rw[HN1.out] at HCZ HBC;clear hjk;go_wp2_with fail;refine HCZ.out.mono ?_;rintro e w6 ⟨rfl,hk6⟩;have HK6:=Hd (HKZ.out.trans hk6);clear hk6;by_cases hn1:1<n1
              case' pos=>have HB:Hid (frB ps ts k p (j+1)=true):=by (show _=_;rw[HBC.out];exact decide_eq_true hn1)
              case' neg=>have HB:Hid (frB ps ts k p (j+1)=false):=by (show _=_;rw[HBC.out];exact decide_eq_false hn1)
              all_goals
               go_wp2_with fail;go_roundw
               case rel=>exact ⟨j+1,by omega,by go_num,by (rw[HB.out];first|(simp;done)|(simp;omega)),HK6.out⟩
               case measure=>simp [intOf];omega
             ·have HB:=Hd (zEW (tk:=ts) (i:=k) HPJ.out hpt);rw[HBT.out] at HB;have hpb:(p == t)=false:=(by rw[beq_eq_false_iff_ne];exact hpt);have hpn:(p != t)=true:=(by rw[bne_iff_ne];exact hpt);go_wp2_with fail;go_roundw
              case rel=>exact ⟨j+1,by omega,by go_num,by rw[HB.out],HKZ.out⟩
              case measure=>simp [intOf];omega
          ·obtain rfl:j=l.length:=(by omega);by_cases hmq:m0+q=r
           ·have HB:Hid (frB ps ts k t l.length=true):=(by show _=_;rw[<- HPL.out];exact zAJ.2 (by rw[<- HTT.out,hmq];exact HFR.out));rw[HB.out];rw[<- hmq,HSQ.out] at HE1;rw[<- hmq,HTT.out] at HE2;have HROW:=Hd (Blk.new wz 9 #[.string (bs sq)]);have HKA:=Hd (zaA wz (.cells #[.string (bs sq)] 9));have HKZA:=Hd (HWZ.out.trans HKA.out);have HG6:=Hd ((HGO.out.kept zfJ HKZ.out).kept zfJ HKA.out);have HT6:=Hd ((HGT.out.kept zfJ HKZ.out).kept zfJ HKA.out);have hb6:wA.heap.size<=(wz.alloc (.cells #[.string (bs sq)] 9)).heap.size:=HKZA.out.size;go_wp2_with (at_builtin;refine zjE ?_);refine Hd ?_;refine zaQ zfJ rfl (.tmp 107) (.tmp 109) 29 rfl i0 _ 16 Tryz.underlying29 hi hz0 hz1 hz2 rfl (by omega) (by rfl) HG6.out _ [.string (bs sq)] sq (by rfl) (fun j u hu=>HROW.out.cell j u (by rw[<- Array.getElem?_toList];exact hu)) rfl rfl (by unfold maxLen;omega) (by omega) hb6 _ rfl ?_;intro g7 c7' w7 hout7 hgrow7 hat7 hlt7;have HOUT8:Hid (OutG StrK 1 (fun _=>False) wA.heap.size 9 w7 (.slice (some ⟨g7,0,none⟩) (us.length+1) c7') (zr4 xs (k+1))):=(by rw[HE1.out];exact hout7);obtain ⟨hT7,hne7⟩:=zuK (n7:=us.length+1) (c7:=c7') HT6.out HNE.out hgrow7 hat7;have HT7:=Hd hT7;have HNE7:=Hd hne7;have HK7:Hid (Kept wA w7):=HKZA.out.trans' ((Only.grown hgrow7).below HKZA.out.size (fun i q=>(HG6.out.blk i q.symm).1));clear hout7 hgrow7 hat7 hlt7 hT7 hne7 HROW HKA HKZA HG6 HT6 hb6 HWZ HKZ HGO HGT HNE HB HKT;obtain ⟨⟨y0,y1,y2,y3,y4,y5,y6,y7,y8,y9⟩,⟨d0,d1,d2,d3,d4⟩,⟨zB,zg⟩,-⟩:=HCC.out w7 HK7.out;have hkd:Kept w7 w7.drew:=zaB w7 1;have HKD:=Hd (HK7.out.trans hkd);have HT8:=Hd (HT7.out.kept zfJ hkd);have HO8:=Hd (HOUT8.out.kept zfJ hkd);clear hkd HT7 HOUT8 HK7;go_wp2_with fail
            go_region_law (first
             | (go_simp;go_at_call 51;refine (HFQ.out _ HKD.out).mono ?_;rintro e w8 ⟨rfl,hk8⟩;have hka:=hk8.trans (zaA w8 (.cells #[.string (bs t)] 9));have HT9:=Hd (HT8.out.kept zfJ hka);have HO9:=Hd (HO8.out.kept zfJ hka);have HROW9:=Hd (Blk.new w8 9 #[.string (bs t)]);have HKB:=Hd (HKD.out.trans hka);have hb9:wA.heap.size<=(w8.alloc (.cells #[.string (bs t)] 9)).heap.size:=HKB.out.size;clear hk8 hka)
             | (refine zeJ zfJ rfl (.tmp 111) (.tmp 120) 29 rfl i0 _ 16 Tryz.underlying29 hi hz0 hz1 hz2 rfl (by omega) (by rfl) HT9.out w8.heap.size [.string (bs t)] t (by rfl) (fun j u hu=>HROW9.out.cell j u (by rw[<- Array.getElem?_toList];exact hu)) rfl rfl (by unfold maxLen;omega) (by omega) hb9 _ rfl ?_;intro g10 c10 w10 hout10 hgrow10 hat10 hlt10;have HT10:Hid (OutG StrK 1 (fun _=>False) wA.heap.size 9 w10 (.slice (some ⟨g10,0,none⟩) (ts.length+1) c10) (zpT xs (k+1))):=(by rw[HE2.out];exact hout10);obtain ⟨ho10,hne10⟩:=zuK (n7:=ts.length+1) (c7:=c10) HO9.out (fun g a b=>HNE7.out g b a) hgrow10 hat10;have HO10:=Hd ho10;have HN10:=Hd hne10;have HK10:Hid (Kept wA w10):=HKB.out.trans' ((Only.grown hgrow10).below HKB.out.size (fun i q=>(HT9.out.blk i q.symm).1));clear hout10 hgrow10 hat10 hlt10 ho10 hne10))
            all_goals
             clear HROW9 HT9 HO9 HKB HT8 HO8 HKD y0 y1 y2 y3 y4 y5 y6 y7 y8 y9 d0 d1 d2 d3 d4 zB zg hb9 HNE7;go_wp2_with fail;go_roundw
             case rel=>exact ⟨k+1,by omega,by go_num,HO10.out,HT10.out,fun g a b=>HN10.out g b a,HK10.out⟩
             case measure=>simp [intOf];omega
           ·have HB:Hid (frB ps ts k t l.length=false):=(by show _=_;rw[<- Bool.not_eq_true,<- HPL.out,zAJ,<- HTT.out];exact HNF.out _ (by omega) (by omega));have HLT:=Hd (zm6 (m0+q) (by omega) wz);rw[HSQ.out] at HLT;rw[HB.out];go_wp2_with fail;refine HLT.out.mono ?_;rintro e w6 ⟨rfl,hk6⟩;have HK6:=Hd (HKZ.out.trans hk6);clear hk6 HLT HKZ HWZ HB;go_wp2_with fail;go_roundw
            case rel=>exact ⟨q+1,by omega,rfl,by go_num,HK6.out⟩
            case measure=>simp [intOf];omega
     ·obtain rfl:k=l.length:=(by omega);have HF2:=Hd (HF.out _ _ (Strs.outO HGO.out) ((HK1.out.trans HKR.out).trans HKT.out));obtain ⟨ar,cr,rfl,hcr,hmr⟩:=HGO.out.form;clear HF HGO HGT HKT;go_wp2_with fail
      (try go_ret2)
      exact HF2.out
theorem zCL (y:StyT) (lang:Bs) (l:List SrcT) (h:l.length<=8):(zmF y lang l).2.length<=8:=by
 unfold zmF
 split
 ·rename_i he;show (if _ then _ else _:List Bs).length<=8
  split
  ·rw[List.length_map];exact h
  ·rename_i hn;rw[List.length_map,zCc _ (fun x hx=>by obtain ⟨s,_,rfl⟩:=List.mem_map.1 hx;exact zmE he (by simpa using hn) lang s),List.length_map];exact h
 ·simp
theorem ztF (l:List SrcT) (y:StyT) (v vE:Value) (lang:Bs) (w:World) (hen:EnvC w) (hv:Srcs w v l) (hE:Prs w vE y.entries) (hl:l.length<=140737488355328) (hfs:∀ s∈l,FitS s) (hfy:FitY y) :
  Calls Tryz.prog 5 #[v,zdU vE y,.string (bs lang)] w fun e w'=>e=.returned (.bool true)/\Kept w w':=by
 have HFW:=Hd (fun w' (k:Kept w w')=>zzV l y v vE w' (hv.kept k) (hE.kept k) hl hfs hfy);unfold FewP at HFW;have HAW:=Hd (fun w' (k:Kept w w')=>ztE w' (hen.kept k));have HOR:=Hd (fun w' (k:Kept w w') (h1:l.length<=8) (h2:∀ s∈l,FitL s) (h3:FewY y)=>zmK v vE l y lang w' (hen.kept k) (hv.kept k) h1 h2 (hE.kept k) h3.small h3.2.2.2);have HRO:=Hd (fun w' (k:Kept w w') (h1:l.length<=8) (h2:∀ s∈l,FitL s) (h3:FewY y)=>zwW v vE l y lang w' (hv.kept k) h1 h2 (hE.kept k) h3.small h3.2.2.2);unfold SufPo at HOR HRO;have HSO:=Hd (fun v v' xs ys w' (h1:Strs w' v xs) (h2:Strs w' v' ys) (h3:xs.length<=8) (h4:ys.length<=8)=>zs1 v v' xs ys w' h1 h2 (by omega) (by omega));obtain ⟨aE,cE,rfl,zE⟩:=hE.form;obtain ⟨a,c,rfl,zV⟩:=(show ∃ a c,v=.slice a l.length c/\l.length<=c by obtain ⟨a,c,e,q,_⟩:=hv;exact ⟨a,c,e,q⟩);have HV:=Hd hv;have hka:=zaA w (.cells (zaD (.slice aE y.entries.length cE) y) 33);have HY0:=Hd (Blk.new w 33 (zaD (.slice aE y.entries.length cE) y));have HK0:=Hd hka;unfold zdU at HFW HOR HRO ⊢;unfold zaD at HFW HOR HRO HY0 HK0 ⊢;clear hka hen hv hE hfs hfy;go_enter Tryz.func5,Tryz.ntmps5;go_wp2_with fail;generalize w.alloc _=W0 at *;obtain ⟨S,HSS⟩:∃ S,Hid (w.heap.size=S):=⟨_,rfl⟩;rw[HSS.out] at HY0 ⊢;refine (HFW.out W0 HK0.out).mono ?_;rintro e w1 ⟨b,rfl,hb,hk1⟩;have HK1:=Hd (HK0.out.trans hk1);have HY1:=Hd (HY0.out.kept hk1);clear hk1 HFW HY0 HK0;cases b with
 | false =>
  go_wp2_with fail;refine (HAW.out w1 HK1.out).mono ?_;rintro e w2 ⟨rfl,hk2⟩;have HK2:=Hd (HK1.out.trans hk2);clear hk2;go_wp2_with fail
  (try go_ret)
  exact ⟨rfl,HK2.out⟩
 | true =>
  obtain ⟨hl8,hfl,hfy⟩:=hb rfl;have HFL:=Hd hfl;have HFY:=Hd hfy;clear hb hfl hfy;have c0:=HY1.out.cell 0 _ rfl;have c1:=HY1.out.cell 1 _ rfl;have c2:=HY1.out.cell 2 _ rfl;have c3:=HY1.out.cell 3 _ rfl;have c4:=HY1.out.cell 4 _ rfl;have c5:=HY1.out.cell 5 _ rfl;have c6:=HY1.out.cell 6 _ rfl;have c7:=HY1.out.cell 7 _ rfl;have c8:=HY1.out.cell 8 _ rfl;have c9:=HY1.out.cell 9 _ rfl;go_wp2_with fail;refine (HOR.out w1 HK1.out hl8 HFL.out HFY.out).mono ?_;clear c0 c1 c2 c3 c4 c5 c6 c7 c8 c9;have hol:(zmF y lang l).2.length<=8:=zCL y lang l hl8;obtain ⟨O,HO⟩:∃ O,Hid ((zmF y lang l).2=O):=⟨_,rfl⟩;obtain ⟨E,HE⟩:∃ E,Hid ((zmF y lang l).1=E):=⟨_,rfl⟩;rw[HO.out] at hol HRO ⊢;rw[HE.out] at HRO ⊢;clear HO HE HOR;rintro e w2 ⟨vO,rfl,ho,hk2⟩;have hs2:=ho;have HK2:=Hd (HK1.out.trans hk2);have HY2:=Hd (HY1.out.kept hk2);have HS2:=Hd hs2;obtain ⟨aO,cO,rfl,zO⟩:=hs2.shape;have c0:=HY2.out.cell 0 _ rfl;have c1:=HY2.out.cell 1 _ rfl;have c2:=HY2.out.cell 2 _ rfl;have c3:=HY2.out.cell 3 _ rfl;have c4:=HY2.out.cell 4 _ rfl;have c5:=HY2.out.cell 5 _ rfl;have c6:=HY2.out.cell 6 _ rfl;have c7:=HY2.out.cell 7 _ rfl;have c8:=HY2.out.cell 8 _ rfl;have c9:=HY2.out.cell 9 _ rfl;clear ho hk2 hs2 HK1 HY1;simp only;go_wp2_with fail;refine (HRO.out w2 HK2.out hl8 HFL.out HFY.out).mono ?_;rintro e w3 ⟨vO2,rfl,ho3,hk3⟩;have HK3:=Hd (HK2.out.trans hk3);have HS3:=Hd ho3;have HS23:=Hd (HS2.out.kept hk3);obtain ⟨aP,cP,rfl,zP⟩:=ho3.shape;clear ho3 hk3 HK2 HY2 HS2 c0 c1 c2 c3 c4 c5 c6 c7 c8 c9 HRO;simp only;go_wp2_with fail;refine (HSO.out _ _ O O w3 HS23.out HS3.out hol hol).mono ?_;rintro e w4 ⟨rfl,hk4⟩;have HK4:=Hd (HK3.out.trans hk4);rw[show decide (O=O)=true from decide_eq_true rfl];have hee:(E == E)=true:=(by simp);clear hk4 HK3 HS3 HS23;go_wp2_with fail;refine (HAW.out w4 HK4.out).mono ?_;rintro e w9 ⟨rfl,hk9⟩;have HK9:=Hd (HK4.out.trans hk9);clear hk9;go_wp2_with fail
  (try go_ret)
  exact ⟨rfl,HK9.out⟩
end Go.Proofs.YtmcoomlkbgiboaaGreatDoor
namespace Go.Proofs.YtmcoomlkbgiboaaGreatDoor
open Go.ChangeShapes Go.WideShapes Go.ChangeAt Go.RowKit
theorem Tryz.ownNone:ownKnob Tryz.prog.godebug=none:=by kernel_rfl
theorem Tryz.laidOut:laidOutB Tryz.prog=true:=by kernel_rfl
section
variable {H:Type} {enc:TypeId × Value->H} {P:Program}
theorem ziX (hl:laidOutB P=true) {W W':World} {sp:Nat->Bool}:∀ {ts:List TypeId} {vs:List Value} {ds:List (DataW H)} {p:List MemPlace},
  (∀ t∈ts,P.readableRec t=true/\t<P.types.size)->DataW.TrodAll enc P W 0 (fun _=>true) true ts vs ds p->(∀ x∈p,W.sameAt W' x)->(∀ x∈p,sp x.block=true)->DataW.TrodAll enc P W' 0 sp true ts vs ds p
 | [],vs,ds,p,_,h,_,_=>by
  obtain ⟨rfl,rfl,rfl⟩:=trodAll_nil h;exact trodAll_mk0
 | t :: ts,vs,ds,p,hr,h,hs,hp=>by
  obtain ⟨v,vs',d,ds',p1,p2,rfl,rfl,rfl,h0,h1⟩:=trodAll_cons h;have h0':=WideElems.Trod_stays hl (hr t (by simp)).1 (hr t (by simp)).2 h0 (fun x hx=>hs x (by simp [hx])) (sp':=sp) (fun x hx=>hp x (by simp [hx]));exact trodAll_cons_mk h0' (ziX hl (fun t ht=>hr t (by simp [ht])) h1 (fun x hx=>hs x (by simp [hx])) (fun x hx=>hp x (by simp [hx])))
theorem zCM {f:Func} {s:ChangeSpec} {apart fresh handsOn again:Bool} {W W':World} {args:Array Value} {ds gs:List (DataW H)} {zaP:List MemPlace} {bt:TypeId}
  (hl:laidOutB P=true) (hread:∀ t∈f.params.toList,P.readableRec t=true/\t<P.types.size) (hr:f.resultTypes=#[bt]) (hbt:P.underlying bt=some .bool) (hsv:s.vars=[])
  (hW:DataW.Whole enc P f.params.toList s.vars apart W args.toList ds gs zaP) (hs:s.fn H ds={ results:=[.lit (.bool true)],args:=ds }) (hb:Kept W W') :
  s.post enc P f apart fresh handsOn again W args (.bool true) W':=by
 have hW':=hW;have hlt:∀ p∈zaP,p.block<W.heap.size:=fun p hp=>hW'.lt p hp;have hold:∀ p∈zaP,(fun b=>decide (b<W.heap.size)) p.block=true:=fun p hp=>(by simpa using hlt p hp);obtain ⟨pa,pv,hA,hV,hbe,hz,hn⟩:=hW;rw[hsv] at hV;obtain ⟨rfl,rfl⟩:=trodVars_none hV;rw[List.append_nil] at hbe;subst hbe;have hs':s.fn H (ds ++ [])={ results:=[.lit (.bool true)],args:=ds }:=(by rw[List.append_nil];exact hs);have hres:∀ (b:Nat) (sp:Nat->Bool) (hd:Bool),DataW.TrodAll enc P W' b sp hd f.resultTypes.toList ((Value.bool true).resultList f.resultTypes.size) (s.fn H (ds ++ [])).results []:=by
  intro b sp hd;rw[hs',hr];exact trodAll_cons_mk (shut_bool hbt _) trodAll_mk0
 have hargs:∀ sp:Nat->Bool,(∀ p∈zaP,sp p.block=true)->DataW.TrodAll enc P W' 0 sp true f.params.toList args.toList (s.fn H (ds ++ [])).args zaP:=by
  intro sp hsp;rw[hs'];exact ziX hl hread hA (fun x hx=>hb.same (hlt x hx)) hsp
 have hvars:∀ sp:Nat->Bool,DataW.TrodVars enc P W' sp s.vars (s.fn H (ds ++ [])).vars []:=by
  intro sp;rw[hs',hsv];rfl
 have hok:=ok_one (P:=P) (W':=W') (v:=.bool true) hr rfl (okWide_bool_mk hbt _);refine ⟨ds,[],zaP,[],zaP,[],hW',hres _ _ _,hargs _ hold,hvars _,World.keptBut_mono (fun p hp=>⟨hp,?_⟩) (hb.frame (· ∈ zaP)),fun _=>?_⟩
 ·exact Or.inr (Or.inl hp)
 ·refine ⟨hok,_,_,([] ++ zaP) ++ [],⟨[] ++ zaP,[],trodAll_append (hargs _ (fun _ _=>rfl)) (hres _ _ _),hvars _,rfl,?_,?_⟩,?_⟩
  ·intro b off hp;have hin:MemPlace.cell b off∈zaP:=(by simpa using hp);rw[hb.frozen (hlt _ hin)];exact hz b off hin
  ·intro ha;have:=hn ha;simpa using this
  ·intro p hp _;simpa using hp
end
theorem zEY {W:World} (h:W.ShapedOpen Tryz.prog):Gnd W :=
 Go.Proofs.cell_of_shapedOpen_int (zero:=#[.int .i64 0]) (t:=3) h (of_decide_eq_true (by kernel_rfl)) (by kernel_rfl) rfl (by kernel_rfl) (by kernel_rfl) Tryz.underlying3
def firstCells:Array Value:=(Go.Pinned.utf8FirstZ.map fun (n:Nat)=>Value.int .u8 (n:Int)).toArray
def ztG:Array Value:=#[.int .u8 128,.int .u8 191,.int .u8 160,.int .u8 191,.int .u8 128,.int .u8 159,.int .u8 144,.int .u8 191,.int .u8 128,.int .u8 143,.int .u8 0,.int .u8 0,.int .u8 0,.int .u8 0,.int .u8 0,.int .u8 0,.int .u8 0,.int .u8 0,.int .u8 0,.int .u8 0,.int .u8 0,.int .u8 0,.int .u8 0,.int .u8 0,.int .u8 0,.int .u8 0,.int .u8 0,.int .u8 0,.int .u8 0,.int .u8 0,.int .u8 0,.int .u8 0]
def zfY (cs:Array Value):Obj->Obj
 | .cells _ t frozen=>.cells cs t frozen
 | o=>o
abbrev TabW (W:World):Prop:=Lib.TabIs Tryz.prog W "internal/strconv.uint64pow10" .u64 Lib.pow10Tab/\Lib.TabIs Tryz.prog W "strings.asciiSpace" .u8 Lib.asciiSpaceTab
def zkZ (k:IntKind) (zs:List Int):Array Value:=(zs.map fun z=>Value.int k z).toArray
def zFo:List Int:=[0,1,28,2,29,14,24,3,30,22,20,15,25,17,4,8,31,27,13,23,21,19,16,7,26,12,18,6,11,5,10,9]
def zFp:List Int:=[0,1,56,2,57,49,28,3,61,58,42,50,38,29,17,4,62,47,59,36,45,43,51,22,53,39,33,30,24,18,12,5,63,55,48,27,60,41,37,16,46,35,44,21,52,32,23,11,54,26,40,15,34,20,31,10,25,14,19,9,13,8,7,6]
noncomputable def zFy:Nat:=(World.holding Tryz.prog default ⟨#[],#[],[]⟩).heap.size
noncomputable def zfH (os:Os):World :=
 let w0:=World.holding Tryz.prog os ⟨#[.cells (Lib.whiteT.map fun (z:Nat)=>Value.int .u16 (z:Int)).toArray 240,.cells #[.slice (some ⟨zFy,0,none⟩) 7 7,.slice none 0 0,.int .i64 2] 237],#[],[]⟩
 { w0 with heap:=((((((w0.heap.modify 4 (zfY firstCells)).modify 5 (zfY ztG)).modify 6 (zfY (zkZ .u8 zFo))).modify 7 (zfY (zkZ .u8 zFp))).modify 3 (zfY (zkZ .u64 Lib.pow10Tab))).modify 0 (zfY (zkZ .u8 Lib.asciiSpaceTab))).modify 1 (zfY #[.pointer (some ⟨zFy+1,0,none⟩)]) }
abbrev zEe:List (String × DataW Unit):=[("math/bits.deBruijn32tab",Rows.laid_math_bits_deBruijn32tab),("math/bits.deBruijn64tab",Rows.laid_math_bits_deBruijn64tab),("internal/strconv.uint64pow10",Rows.laid_internal_strconv_uint64pow10),("unicode/utf8.acceptRanges",Rows.laid_unicode_utf8_acceptRanges),("unicode.White_Space",Rows.laid_unicode_White_Space),("strings.asciiSpace",Rows.laid_strings_asciiSpace),("unicode/utf8.first",Rows.laid_unicode_utf8_first)]
def ndB:List MemPlace->Nat->Bool
 | [],_=>true
 | .cell b off :: r,s=>decide (off<512) && (!s.testBit (b * 512+off) && ndB r (s ||| 2 ^ (b * 512+off)))
 | .map _ :: _,_=>false
theorem zC8:∀ (ps:List MemPlace) (s:Nat),ndB ps s=true->ps.Nodup/\∀ p∈ps,∃ b off,p=.cell b off/\off<512/\s.testBit (b * 512+off)=false
 | [],_,_=>⟨List.nodup_nil,fun _ h=>(List.not_mem_nil h).elim⟩
 | .cell b off :: r,s,h=>by
  unfold ndB at h;rw[Bool.and_eq_true,Bool.and_eq_true,decide_eq_true_eq,Bool.not_eq_true'] at h;obtain ⟨h1,h2,h3⟩:=h;obtain ⟨i1,i2⟩:=zC8 r _ h3;refine ⟨List.nodup_cons.2 ⟨fun hm=>?_,i1⟩,fun p hp=>?_⟩
  ·obtain ⟨b',off',e,_,q⟩:=i2 _ hm;cases e;rw[Nat.testBit_or,Nat.testBit_two_pow_self,Bool.or_true] at q;cases q
  ·rcases List.mem_cons.1 hp with rfl|hp
   ·exact ⟨b,off,rfl,h1,h2⟩
   ·obtain ⟨b',off',e,h4,q⟩:=i2 p hp;refine ⟨b',off',e,h4,?_⟩;rw[Nat.testBit_or,Bool.or_eq_false_iff] at q;exact q.1
 | .map _ :: _,_,h=>by simp [ndB] at h
theorem ztH {P:Program} {w:World} {l:List (String × DataW Unit)} (fuel:Nat) (h:(DataW.laidRun P w fuel (l.map (·.1))).map (·.1)=some l)
  (hr:(DataW.laidRun P w fuel (l.map (·.1))).map (fun x=>ndB x.2 0 && laidRowsB P w x.2)=some true):laidMet P l w:=by
 cases hx:DataW.laidRun P w fuel (l.map (·.1)) with
 | none=>simp [hx] at h
 | some x =>
  obtain ⟨l',ps⟩:=x;simp only[hx,Option.map_some,Option.some.injEq] at h hr;subst h;simp only[Bool.and_eq_true] at hr;exact laidMet_of_run fuel hx (decide_eq_true (zC8 _ _ hr.1).1) hr.2
theorem zAK (os:Os) (args:Array Value):laidMet Tryz.prog zEe ((zfH os).forCall (fun _ _=>0) ⟨#[],args,[]⟩).memory :=
 ztH 10 (by kernel_rfl) (by kernel_rfl)
theorem zAL (os:Os) (args:Array Value):((zfH os).forCall (fun _ _=>0) ⟨#[],args,[]⟩).variablesRefB Tryz.checked.prog=true:=by kernel_rfl
theorem zwX (os:Os) (args:Array Value):(((zfH os).forCall (fun _ _=>0) ⟨#[],args,[]⟩).heap.toList.drop Tryz.checked.prog.globals.size).take ((begin Tryz.checked.prog (fun _ _=>0) default).world.heap.size - Tryz.checked.prog.globals.size)=(begin Tryz.checked.prog (fun _ _=>0) default).world.heap.toList.drop Tryz.checked.prog.globals.size:=by kernel_rfl
theorem zEZ {W:World} (h:laidMet Tryz.prog zEe W):TabW W :=
 ⟨Lib.tabIs_of_head (g:=3) (t:=285) (e:=267) (n:=20) (by kernel_rfl) (by kernel_rfl) (by kernel_rfl) (by kernel_rfl) (by kernel_rfl) (by kernel_rfl) (h.tail.tail),
  Lib.tabIs_of_head (g:=0) (t:=155) (e:=5) (n:=256) (by kernel_rfl) (by kernel_rfl) (by kernel_rfl) (by kernel_rfl) (by kernel_rfl) (by kernel_rfl) (h.tail.tail.tail.tail.tail)⟩
theorem zEf {W:World} (h:laidMetH Tryz.prog zEe W):TabW W:=by
 rw[Go.MakeChecks.laidMetH_plain _ _ _ (by kernel_rfl)] at h;exact zEZ h
end Go.Proofs.YtmcoomlkbgiboaaGreatDoor
