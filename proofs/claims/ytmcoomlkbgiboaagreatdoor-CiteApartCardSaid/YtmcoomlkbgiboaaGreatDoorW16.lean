/- split of style. Conditions: lengths. -/
import Derived.Test.YtmcoomlkbgiboaaGreatDoorW14
import Derived.Test.YtmcoomlkbgiboaaGreatDoorW15
import Derived.Test.YtmcoomlkbgiboaaGreatDoorW05
import Derived.Test.YtmcoomlkbgiboaaGreatDoorW06
import Derived.Test.YtmcoomlkbgiboaaGreatDoorW13
set_option linter.all false
set_option maxRecDepth 100000
set_option maxHeartbeats 6400000
namespace Go.Proofs.YtmcoomlkbgiboaaGreatDoor
open Go.RowKit
def zEl:Value->Nat
 | .string s=>s.size
 | _=>0
def SplitP (t:Bs) (w:World) (e:Ending) (w':World):Prop:=∃ v,e=.returned (.tuple #[v,.int .i64 (zcU t)])/\Pcs w' v (zeC t)/\Kept w w'
theorem SplitP.bad {t:Bs} {w w':World} (h:zcU t≠0) (k:Kept w w'):SplitP t w (.returned (.tuple #[.slice none 0 0,.int .i64 (zcU t)])) w' :=
 ⟨_,rfl,by unfold zeC;rw[if_neg h];exact Pcs.nil _,k⟩
theorem zyM {t:Bs} (h:lnB t=true) (hs:zj2 t=none):zcU t=5:=by unfold zcU;rw[h,hs];rfl
theorem zDv {t:Bs} {l:List Pc} (h:lnB t=true) (hs:zj2 t=some l):zcU t=0/\zeC t=l:=by
 have e:zcU t=0:=(by unfold zcU;rw[h,hs];rfl);exact ⟨e,by unfold zeC;rw[if_pos e,hs];rfl⟩
theorem zqA {t:Bs} (h:lnB t=false):zcU t=17:=by unfold zcU;rw[h];rfl
theorem SplitP.five {t:Bs} {w w':World} (hl:lnB t=true) (hs:zj2 t=none) (k:Kept w w'):SplitP t w (.returned (.tuple #[.slice none 0 0,.int .i64 5])) w':=by
 have e:=zyM hl hs;have h:zcU t≠0:=(by rw[e];decide);have:=SplitP.bad h k
 rwa [e] at this
theorem zBq:Ascii zbY:=by
 intro b hb;unfold zbY at hb;simp at hb;rcases hb with rfl|rfl|rfl|rfl <;> decide
theorem zyN (ps:List Pc) (q:Pc) (o:Option (List Pc)):(o.map fun l=>q :: l).map (ps ++ ·)=o.map ((ps ++ [q]) ++ ·):=by
 cases o <;> simp
theorem zgR (t:Bs) (w:World) (hg:Gnd w) (ht:t.length<=100000):Calls Tryz.prog 60 #[.string (bs t)] w (SplitP t w):=by
 have HG:=Hd hg;have HLN:=Hd (fun w=>zh7 t w (by omega));clear hg;by_cases hline:lnB t=true
 case neg =>
  have hline':lnB t=false:=(by simpa using hline);rw[hline'] at HLN;have HB:Hid (∀ w',Kept w w'->SplitP t w (.returned (.tuple #[.slice none 0 0,.int .i64 17])) w'):=fun w' k=>by
   have h:=SplitP.bad (t:=t) (w:=w) (w':=w') (by rw[zqA hline'];decide) k
   rwa [zqA hline'] at h
  generalize hP:SplitP t w=P at *;clear hP;go_enter Tryz.func60,Tryz.ntmps60;go_wp2_with fail;refine (HLN.out _).mono ?_;rintro e w1 ⟨rfl,hk1⟩;have HK1:=Hd hk1;clear hk1;go_wp2_with fail;exact HB.out _ HK1.out
 rw[hline] at HLN;have H5:Hid (zj2 t=none->∀ w',Kept w w'->SplitP t w (.returned (.tuple #[.slice none 0 0,.int .i64 5])) w'):=fun h w' k=>SplitP.five hline h k;have HOK:Hid (∀ l,zj2 t=some l->∀ w' v,Pcs w' v l->Kept w w'->SplitP t w (.returned (.tuple #[v,.int .i64 0])) w'):=fun l h w' v hp k=>by
  obtain ⟨e1,e2⟩:=zDv hline h;refine ⟨v,by rw[e1],by rw[e2];exact hp,k⟩
 have H0:Hid (zj2 t=(zg2 (t.length+1) t 0 0).map (([]:List Pc) ++ ·)):=by
  show _=_;unfold zj2;cases zg2 (t.length+1) t 0 0 <;> simp
 generalize hP:SplitP t w=P at *;generalize zj2 t=S at *;clear hP hline;go_enter Tryz.func60,Tryz.ntmps60;go_wp2_with fail;refine (HLN.out _).mono ?_;rintro e w1 ⟨rfl,hk1⟩;have HK1:=Hd hk1;clear hk1 HLN;go_wp2_with fail;go_loopw [4,5,6,7] (fun ov gv hv rv wr=>∃ (f:Nat) (ps:List Pc) (G g:Nat) (r:Bs),gv=.int .i64 G/\hv=.int .i64 g/\rv=.string (bs r)/\Hid (wr.ownsRow w.heap.size 118 3 ov ps.length (pcC ps))/\r.length<f/\ps.length+r.length<=t.length/\G+r.length<=t.length/\g<=G/\Hid (S=(zg2 f r G g).map (ps ++ ·))/\Hid (Kept w wr)) (fun _ _ _ rv _=>zEl rv)
 case atStart=>exact ⟨t.length+1,[],0,0,t,rfl,rfl,rfl,World.ownsRow_nil _ _ _ _,by omega,by simp,by omega,by omega,H0.out,HK1.out⟩
 case round =>
  obtain ⟨f,ps,G,g,r,rfl,rfl,rfl,HOWN,hf,hps,hG,hgG,HSP,HKR⟩:=hrel;obtain ⟨f,rfl⟩:∃ f',f=f'+1:=⟨f - 1,by omega⟩;cases r with
  | nil =>
   rw[zdF] at HSP;by_cases hg0:g=0
   ·subst hg0;have HS:Hid (S=some ps):=by
     show _=_;rw[HSP.out,if_pos rfl];simp
    have HP:=Hd (Pcs.own HOWN.out);go_wp2_with fail;exact HOK.out ps HS.out _ _ HP.out HKR.out
   ·have HS:Hid (S=none):=by
     show _=_;rw[HSP.out,if_neg hg0];rfl
    have hg0':((g:Int) == 0)=false:=(by rw[beq_eq_false_iff_ne];omega);go_wp2_with fail;exact H5.out HS.out _ HKR.out
  | cons b r =>
   have hrl:r.length+1=(b :: r).length:=rfl;obtain ⟨L,HLL⟩:∃ L,Hid (b :: r=L):=⟨_,rfl⟩;have hLL:=HLL.out;rw[hLL] at hrl hf hps hG;have hne:(L == ([]:Bs))=false:=(by rw[<- hLL];rfl);have hLp:0<L.length:=(by omega);have HIX:=Hd (fun w=>zBo L zbY w zBq (by decide) (by decide) (by omega));unfold IdxPost at HIX;cases hin:za9 zbY b with
   | false =>
    rw[zeF _ _ _ hin,hLL,zyN] at HSP;have hrun:=ztS (r:=r) hin;rw[hLL] at hrun ⊢;clear HLL hLL hin;rcases hrun with ⟨hi,hn⟩|⟨k,hi,hn,hk0,hkl⟩
    ·rw[hi] at HIX;rw[hn,hrl] at HSP;obtain ⟨X,HXX⟩:∃ X,Hid (L.take L.length=X):=⟨_,rfl⟩;obtain ⟨Y,HYY⟩:∃ Y,Hid (L.drop L.length=Y):=⟨_,rfl⟩;have hyl:Y.length=0:=(by rw[<- HYY.out];simp);have hxl:X.length<=L.length:=(by rw[<- HXX.out];simp);have u1:=zhR (P:=Tryz.prog) (t:=9) Tryz.underlying9 L L.length (Nat.le_refl _) (L.length:Int) rfl X HXX.out;have u2:=zeD (P:=Tryz.prog) (t:=9) Tryz.underlying9 L L.length (Nat.le_refl _) (L.length:Int) rfl Y HYY.out;rw[HXX.out,HYY.out] at HSP;clear hi hn;go_wp2_with fail;refine (HIX.out _).mono ?_;rintro e w3 ⟨rfl,hk3⟩;have HKW:=Hd (HKR.out.trans hk3);have HOW:=Hd (zaX HOWN.out hk3);clear hk3 HIX HOWN HKR;have HBQ:=Hd (Blk.new w3 118 #[.string (bs X),.bool false,.int .i64 (g:Int)]);have hszW:w.heap.size<=w3.heap.size:=HKW.out.size;go_wp2_with (at_builtin;refine zdS _ rfl _ _ rfl w.heap.size _ ps rfl (HOW.out.alloc _) ⟨X,false,g⟩ w3.heap.size rfl HBQ.out (by omega) (by simp;omega) ?_;intro v5 w5 hown5 hgrow5;rw[List.length_append,List.length_singleton] at hown5;have HO5:=Hd hown5;have HK5:=Hd ((HKW.out.trans (zaA w3 _)).trans' (zaO (HOW.out.alloc _) hgrow5 (by simp;omega)));obtain ⟨a5,c5,rfl,-,-,-⟩:=za1 hown5;clear hown5 hgrow5);go_roundw
     case rel=>exact ⟨f,ps ++ [Pc.mk X false g],G,g,Y,rfl,rfl,rfl,(by show World.ownsRow _ _ _ _ _ _ _;rw[List.length_append];exact HO5.out),by omega,by rw[List.length_append,List.length_singleton];omega,by omega,by omega,HSP.out,HK5.out⟩
     case measure=>simp [zEl];omega
    ·rw[hi] at HIX;rw[hn] at HSP;obtain ⟨X,HXX⟩:∃ X,Hid (L.take k=X):=⟨_,rfl⟩;obtain ⟨Y,HYY⟩:∃ Y,Hid (L.drop k=Y):=⟨_,rfl⟩;have hyl:Y.length=L.length - k:=(by rw[<- HYY.out];simp);have hxl:X.length<=L.length:=(by rw[<- HXX.out,List.length_take];omega);have u1:=zhR (P:=Tryz.prog) (t:=9) Tryz.underlying9 L k (by omega) (k:Int) rfl X HXX.out;have u2:=zeD (P:=Tryz.prog) (t:=9) Tryz.underlying9 L k (by omega) (k:Int) rfl Y HYY.out;have hk1:((k:Int) == 0)=false:=(by rw[beq_eq_false_iff_ne];omega);have hk2:¬ (k:Int)<0:=(by omega);rw[HXX.out,HYY.out] at HSP;clear hi hn;go_wp2_with fail;refine (HIX.out _).mono ?_;rintro e w3 ⟨rfl,hk3⟩;have HKW:=Hd (HKR.out.trans hk3);have HOW:=Hd (zaX HOWN.out hk3);clear hk3 HIX HOWN HKR;have HBQ:=Hd (Blk.new w3 118 #[.string (bs X),.bool false,.int .i64 (g:Int)]);have hszW:w.heap.size<=w3.heap.size:=HKW.out.size;go_wp2_with (at_builtin;refine zdS _ rfl _ _ rfl w.heap.size _ ps rfl (HOW.out.alloc _) ⟨X,false,g⟩ w3.heap.size rfl HBQ.out (by omega) (by simp;omega) ?_;intro v5 w5 hown5 hgrow5;rw[List.length_append,List.length_singleton] at hown5;have HO5:=Hd hown5;have HK5:=Hd ((HKW.out.trans (zaA w3 _)).trans' (zaO (HOW.out.alloc _) hgrow5 (by simp;omega)));obtain ⟨a5,c5,rfl,-,-,-⟩:=za1 hown5;clear hown5 hgrow5);go_roundw
     case rel=>exact ⟨f,ps ++ [Pc.mk X false g],G,g,Y,rfl,rfl,rfl,(by show World.ownsRow _ _ _ _ _ _ _;rw[List.length_append];exact HO5.out),by omega,by rw[List.length_append,List.length_singleton];omega,by omega,by omega,HSP.out,HK5.out⟩
     case measure=>simp [zEl];omega
   | true =>
    have hz:Lib.indexAny L zbY=0:=(by rw[<- hLL];exact zlI hin);rw[hz] at HIX;have i0:=zb6 (P:=Tryz.prog) (t:=9) Tryz.underlying9 L 0 hLp 0 rfl;have h8:at8 L 0=(b.toNat:Int):=(by rw[<- hLL];rfl);have u1:=zeD (P:=Tryz.prog) (t:=9) Tryz.underlying9 L 1 (by omega) 1 rfl r (by rw[<- hLL];rfl);have hb:=zcI hin;clear hin hz;rw[hLL];clear HLL hLL;rcases hb with rfl|rfl|rfl|rfl
    ·simp only[h8] at i0;rw[zfN] at HSP;have HCUT:=Hd (fun w h=>zxM r 125 w h (by omega));have HSMA:=Hd (fun x w (h:x.length<=1000000000)=>zi3 x [] 20 w h);clear h8;go_wp2_with fail;refine (HIX.out _).mono ?_;rintro e w3 ⟨rfl,hk3⟩;have HKW:=Hd (HKR.out.trans hk3);have HOW:=Hd (zaX HOWN.out hk3);have HGW:=Hd (HG.out.kept HKW.out);clear hk3 HIX HOWN HKR;by_cases hbf:zaI 125 r<r.length
     ·simp only[if_pos hbf] at HCUT;have hrl1:(r.take (zaI 125 r)).length<=r.length:=(by rw[List.length_take];omega);have hrl2:(r.drop (zaI 125 r+1)).length<=r.length - 1:=(by rw[List.length_drop];omega);generalize r.take (zaI 125 r)=X at *;generalize r.drop (zaI 125 r+1)=Y at *;have HSMB:=Hd (fun w=>HSMA.out X w (by omega));go_wp2_with fail;refine (HCUT.out _ HGW.out).mono ?_;rintro e w4 ⟨rfl,n4,rfl⟩;have HKW4:=Hd (HKW.out.trans (zaB w3 n4));have HOW4:=Hd (zaX HOW.out (zaB w3 n4));generalize w3.drewN n4=w4 at *;go_wp2_with fail;refine (HSMB.out _).mono ?_;rintro e w5 ⟨rfl,hk5⟩;have HKW:=Hd (HKW4.out.trans hk5);have HOW:=Hd (zaX HOW4.out hk5);clear hk5 HKW4 HOW4;cases hsb:za6 X 20 [] with
      | false =>
       have HS:Hid (S=none):=by
        show _=_;rw[HSP.out,hsb,if_neg (by simp)];rfl
       clear hsb;go_wp2_with fail;exact H5.out HS.out _ HKW.out
      | true =>
       rw[hsb,if_pos ⟨hbf,rfl⟩,zyN] at HSP;clear hsb HSMA HSMB HCUT;have HBQ:=Hd (Blk.new w5 118 #[.string (bs X),.bool true,.int .i64 (g:Int)]);have hszW:w.heap.size<=w5.heap.size:=HKW.out.size;go_wp2_with (at_builtin;refine zdS _ rfl _ _ rfl w.heap.size _ ps rfl (HOW.out.alloc _) ⟨X,true,g⟩ w5.heap.size rfl HBQ.out (by omega) (by simp;omega) ?_;intro v5 w9 hown5 hgrow9;rw[List.length_append,List.length_singleton] at hown5;have HO5:=Hd hown5;have HK5:=Hd ((HKW.out.trans (zaA w5 _)).trans' (zaO (HOW.out.alloc _) hgrow9 (by simp;omega)));obtain ⟨a5,c5,rfl,-,-,-⟩:=za1 hown5;clear hown5 hgrow9);go_roundw
       case rel=>exact ⟨f,ps ++ [Pc.mk X true g],G,g,Y,rfl,rfl,rfl,(by show World.ownsRow _ _ _ _ _ _ _;rw[List.length_append];exact HO5.out),by omega,by rw[List.length_append,List.length_singleton];omega,by omega,by omega,HSP.out,HK5.out⟩
       case measure=>simp [zEl];omega
     ·simp only[if_neg hbf] at HCUT;have HS:Hid (S=none):=by
       show _=_;rw[HSP.out,if_neg (fun q=>hbf q.1)];rfl
      go_wp2_with fail;refine (HCUT.out _ HGW.out).mono ?_;rintro e w4 ⟨rfl,n4,rfl⟩;have HKW4:=Hd (HKW.out.trans (zaB w3 n4));go_wp2_with fail;exact H5.out HS.out _ HKW4.out
    ·simp only[h8] at i0;rw[zfO] at HSP;have HS:Hid (S=none):=HSP.out;clear h8;go_wp2_with fail;refine (HIX.out _).mono ?_;rintro e w3 ⟨rfl,hk3⟩;have HKW:=Hd (HKR.out.trans hk3);clear hk3 HIX HOWN HKR;go_wp2_with fail;exact H5.out HS.out _ HKW.out
    ·simp only[h8] at i0;rw[zd8] at HSP;clear h8;by_cases hg0:g=0
     ·rw[if_pos hg0] at HSP;subst hg0;go_wp2_with fail;refine (HIX.out _).mono ?_;rintro e w3 ⟨rfl,hk3⟩;have HKW:=Hd (HKR.out.trans hk3);have HOW:=Hd (zaX HOWN.out hk3);clear hk3 HIX HOWN HKR;go_wp2_with fail;go_roundw
      case rel=>exact ⟨f,ps,G+1,G+1,r,by go_num,by go_num,rfl,HOW.out,by omega,by omega,by omega,by omega,HSP.out,HKW.out⟩
      case measure=>simp [zEl];omega
     ·rw[if_neg hg0] at HSP;have hg0':((g:Int) == 0)=false:=(by rw[beq_eq_false_iff_ne];omega);have HS:Hid (S=none):=HSP.out;go_wp2_with fail;refine (HIX.out _).mono ?_;rintro e w3 ⟨rfl,hk3⟩;have HKW:=Hd (HKR.out.trans hk3);clear hk3 HIX HOWN HKR;go_wp2_with fail;exact H5.out HS.out _ HKW.out
    ·simp only[h8] at i0;rw[zd9] at HSP;clear h8;by_cases hg0:g=0
     ·rw[if_pos hg0] at HSP;subst hg0;have HS:Hid (S=none):=HSP.out;go_wp2_with fail;refine (HIX.out _).mono ?_;rintro e w3 ⟨rfl,hk3⟩;have HKW:=Hd (HKR.out.trans hk3);clear hk3 HIX HOWN HKR;go_wp2_with fail;exact H5.out HS.out _ HKW.out
     ·rw[if_neg hg0] at HSP;have hg0':((g:Int) == 0)=false:=(by rw[beq_eq_false_iff_ne];omega);go_wp2_with fail;refine (HIX.out _).mono ?_;rintro e w3 ⟨rfl,hk3⟩;have HKW:=Hd (HKR.out.trans hk3);have HOW:=Hd (zaX HOWN.out hk3);clear hk3 HIX HOWN HKR;go_wp2_with fail;go_roundw
      case rel=>exact ⟨f,ps,G,0,r,rfl,rfl,rfl,HOW.out,by omega,by omega,by omega,by omega,HSP.out,HKW.out⟩
      case measure=>simp [zEl];omega
theorem zhC {w:World} {base:Nat} {e:TypeId} {size:Nat} {v:Value} {n:Nat} {xs:List Value} {k p:Nat} {s:ByteArray} (h:w.ownsRow base e size v n xs) (hit:w.heap[k]? = some (.stringIter s p)):some k≠v.ownBlock:=by
 rcases h.2 with ⟨rfl,_⟩|⟨g,cap,cur,rfl,_,hh,_⟩
 ·simp [Value.ownBlock]
 ·intro q;have:k=g:=(by simpa [Value.ownBlock] using q);subst this;rw[hit] at hh;cases hh
theorem zlM (w:World) (k:Nat) (s:ByteArray) (p:Nat):Only (fun i=>i=k) w (w.iterAt k s p) :=
 ⟨rfl,rfl,rfl,by simp [World.iterAt],fun i _ hs=>by simp [World.iterAt,Array.getElem?_setIfInBounds,Ne.symm hs]⟩
theorem zhD {w:World} {base:Nat} {e:TypeId} {size:Nat} {v:Value} {n:Nat} {xs:List Value} {k p:Nat} {s:ByteArray} (h:w.ownsRow base e size v n xs) (hit:w.heap[k]? = some (.stringIter s p)) (s':ByteArray) (p':Nat):(w.iterAt k s' p').ownsRow base e size v n xs :=
 (zlM w k s' p').own h (fun g hg e=>zhC h hit (by rw[hg,e]))
theorem zqB (l:Bs) (i k:Nat) (a b:Int):zaF (bs (l.drop i)) k a b=zaF (bs l) (i+k) a b:=by
 unfold zaF;have e:zaC (bs (l.drop i)) k=zaC (bs l) (i+k):=by
  rw[zbI,zbI];unfold at8;simp
 rw[e];have:((bs (l.drop i)).size<=k)↔((bs l).size<=i+k):=(by simp;omega);simp only[this]
theorem zqC (l:Bs) (i:Nat):dec (bs (l.drop i)) 0=dec (bs l) i:=by
 have e:zaC (bs (l.drop i)) 0=zaC (bs l) i:=(by rw[zbI,zbI];unfold at8;simp);unfold dec zhA zr5;rw[e];simp only[zqB,Nat.zero_add]
theorem ztT (x t:Bs) (k:Nat) (h:k<x.length):at8 (x ++ t) k=at8 x k:=by
 unfold at8;rw[List.getD_eq_getElem?_getD,List.getD_eq_getElem?_getD,List.getElem?_append_left h]
theorem zyO (x t:Bs):at8 (x ++ t) x.length=at8 t 0:=by
 unfold at8;rw[List.getD_eq_getElem?_getD,List.getD_eq_getElem?_getD,List.getElem?_append_right (Nat.le_refl _)];simp
theorem zyP (x t:Bs) (hx:0<x.length) (ht:t=[]\/at8 t 0<128):dec (bs (x ++ t)) 0=dec (bs x) 0:=by
 have e0:zaC (bs (x ++ t)) 0=zaC (bs x) 0:=(by rw[zbI,zbI];exact ztT x t 0 hx);have A:∀ k a b,k<x.length->zaF (bs (x ++ t)) k a b=zaF (bs x) k a b:=by
  intro k a b h;unfold zaF;rw[zbI,zbI,ztT x t k h];have:((bs (x ++ t)).size<=k)↔((bs x).size<=k):=(by simp;omega);simp only[this]
 have B:∀ k a b,k=x.length->128<=a->zaF (bs (x ++ t)) k a b = -1:=by
  intro k a b h ha;subst h;unfold zaF;rw[if_pos];rcases ht with rfl|ht
  ·left;simp
  ·right;left;rw[zbI,zyO];omega
 have C:∀ k a b,x.length<=k->zaF (bs x) k a b = -1:=by
  intro k a b h;unfold zaF;rw[if_pos (.inl (by simpa using h))]
 have hl3:128<=zfL (zaC (bs x) 0):=(by unfold zfL;split <;> omega);have hl4:128<=zfF (zaC (bs x) 0):=(by unfold zfF;split <;> omega);unfold dec zhA zr5;rw[e0];simp only[Nat.zero_add];rcases (show x.length=1\/x.length=2\/x.length=3\/4<=x.length by omega) with h|h|h|h
 ·simp only[B 1 _ _ h.symm (Int.le_refl _),B 1 _ _ h.symm hl3,B 1 _ _ h.symm hl4,C 1 _ _ (by omega)];simp
 ·simp only[A 1 _ _ (by omega),B 2 _ _ h.symm (Int.le_refl _),C 2 _ _ (by omega)];simp
 ·simp only[A 1 _ _ (by omega),A 2 _ _ (by omega),B 3 _ _ h.symm (Int.le_refl _),C 3 _ _ (by omega)]
 ·simp only[A 1 _ _ (by omega),A 2 _ _ (by omega),A 3 _ _ (by omega)]
theorem zvX (x:Bs) (m k:Nat) (hk:x.length - k<=m):zb2 (bs x) k=zbG (bs (x.drop k)):=by
 induction m generalizing x k with
 | zero =>
  rw[zb5 _ _ (by simp;omega)];unfold zbG;rw[zb5 _ _ (by simp;omega)]
 | succ m ihm =>
  by_cases hkx:k<x.length
  ·have hbx:=za8 (bs x) k (by simpa using hkx);unfold zbG;rw[zdJ _ _ (by simpa using hkx),zdJ (bs (x.drop k)) 0 (by simp;omega),zqC,Nat.zero_add];congr 1;rw[ihm x _ (by omega),ihm (x.drop k) _ (by simp;omega),List.drop_drop]
  ·rw[zb5 _ _ (by simpa using hkx)];unfold zbG;rw[zb5 _ _ (by simp;omega)]
theorem zi4 (l:Bs) (h:0<l.length):zbG (bs l)=(zcG (dec (bs l) 0) && zbG (bs (l.drop (dec (bs l) 0).2.toNat))):=by
 rw[<- zvX l _ _ (Nat.le_refl _)]
 conv=>lhs;unfold zbG
 rw[zdJ _ _ (by simpa using h),Nat.zero_add]
theorem zqD:zbG (bs [])=true:=zb5 _ _ (by simp)
theorem zBr (c:UInt8) (hc:32<=(c.toNat:Int)/\(c.toNat:Int)<127) (b:Bs):∀ (n:Nat) (a:Bs),a.length<=n->zbG (bs (a ++ c :: b))=(zbG (bs a) && zbG (bs b)):=by
 intro n
 induction n with
 | zero =>
  intro a ha;obtain rfl:a=[]:=List.length_eq_zero_iff.1 (by omega);rw[List.nil_append,zi4 (c :: b) (by simp),zqD];have e0:zaC (bs (c :: b)) 0=(c.toNat:Int):=rfl;have e:dec (bs (c :: b)) 0=((c.toNat:Int),1):=(by unfold dec;rw[e0,if_pos (by omega)]);rw[e];have g:zcG ((c.toNat:Int),1)=true:=by
   have h1:zd5 (c.toNat:Int)=true:=(by unfold zd5;simp;omega);have h2:((c.toNat:Int) == 65533)=false:=(by rw[beq_eq_false_iff_ne];omega);simp only[zcG,h1,h2];rfl
  rw[g];rfl
 | succ n ih =>
  intro a ha;by_cases h0:a=[]
  ·exact (show a.length<=n->_ from ih a) (by simp [h0])
  ·have hl:=List.length_pos_iff.2 h0;have hb:=za8 (bs a) 0 (by simpa using hl);rw[zi4 (a ++ c :: b) (by simp;omega),zi4 a hl,zyP a (c :: b) hl (.inr (by show ((c.toNat:Int))<128;omega))];simp only[zeI] at hb;have e:(a ++ c :: b).drop (dec (bs a) 0).2.toNat=a.drop (dec (bs a) 0).2.toNat ++ c :: b:=List.drop_append_of_le_length (by omega);rw[e,ih _ (by simp;omega),Bool.and_assoc]
theorem ztU:zd6 []=true:=by unfold zd6;rw[zqD];rfl
theorem zDw (c:UInt8) (hc:32<=(c.toNat:Int)/\(c.toNat:Int)<127) (a b:Bs):zd6 (a ++ c :: b)=(zd6 a && zd6 b):=by
 unfold zd6;rw[zBr c hc b _ a (Nat.le_refl _)];have hne:(10 == c)=false:=by
  rw[beq_eq_false_iff_ne];rintro rfl;simp at hc
 have e:(a ++ c :: b).contains 10=(a.contains 10 || b.contains 10):=by
  rw[List.contains_append,List.contains_cons,hne];simp
 rw[e];cases zbG (bs a) <;> cases zbG (bs b) <;> cases a.contains 10 <;> cases b.contains 10 <;> rfl
theorem zBs (a x:Bs) (h:∀ b∈a,32<=(b.toNat:Int)/\(b.toNat:Int)<127):zd6 (a ++ x)=zd6 x:=by
 induction a with
 | nil=>rfl
 | cons b a ih =>
  have:=zDw b (h b (by simp)) [] (a ++ x);rw[List.nil_append,ztU,Bool.true_and] at this;rw[List.cons_append,this];exact ih (fun c hc=>h c (by simp [hc]))
theorem zBt (a:Bs) (h:∀ b∈a,32<=(b.toNat:Int)/\(b.toNat:Int)<127):zd6 a=true:=by
 have:=zBs a [] h;rw[List.append_nil,ztU] at this;exact this
end Go.Proofs.YtmcoomlkbgiboaaGreatDoor
