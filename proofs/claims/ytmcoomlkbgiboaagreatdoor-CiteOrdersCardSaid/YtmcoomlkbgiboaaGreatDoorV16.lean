/- A range over a text beside a row of the call's own. No condition. -/
import Derived.Test.YtmcoomlkbgiboaaGreatDoorV05
import Derived.Test.YtmcoomlkbgiboaaGreatDoorV15
import Derived.Test.YtmcoomlkbgiboaaGreatDoorV06
import Derived.Test.YtmcoomlkbgiboaaGreatDoorV13
import Derived.Test.YtmcoomlkbgiboaaGreatDoorV04
import Derived.BigQuiet
set_option linter.all false
set_option maxRecDepth 100000
set_option maxHeartbeats 1600000
namespace Go.Proofs.YtmcoomlkbgiboaaGreatDoor
open Go.RowKit
theorem zhN {w:World} {base:Nat} {e:TypeId} {size:Nat} {v:Value} {n:Nat} {xs:List Value} {k p:Nat} {s:ByteArray} (h:w.ownsRow base e size v n xs) (hit:w.heap[k]? = some (.stringIter s p)):some k≠v.ownBlock:=by
 rcases h.2 with ⟨rfl,_⟩|⟨g,cap,cur,rfl,_,hh,_⟩
 ·simp [Value.ownBlock]
 ·intro q;have:k=g:=(by simpa [Value.ownBlock] using q);subst this;rw[hit] at hh;cases hh
theorem zlZ (w:World) (k:Nat) (s:ByteArray) (p:Nat):Only (fun i=>i=k) w (w.iterAt k s p) :=
 ⟨rfl,rfl,rfl,by simp [World.iterAt],fun i _ hs=>by simp [World.iterAt,Array.getElem?_setIfInBounds,Ne.symm hs]⟩
theorem zhO {w:World} {base:Nat} {e:TypeId} {size:Nat} {v:Value} {n:Nat} {xs:List Value} {k p:Nat} {s:ByteArray} (h:w.ownsRow base e size v n xs) (hit:w.heap[k]? = some (.stringIter s p)) (s':ByteArray) (p':Nat):(w.iterAt k s' p').ownsRow base e size v n xs :=
 (zlZ w k s' p').own h (fun g hg e=>zhN h hit (by rw[hg,e]))
theorem zq0 (l:Bs) (i k:Nat) (a b:Int):zaH (bs (l.drop i)) k a b=zaH (bs l) (i+k) a b:=by
 unfold zaH;have e:zaC (bs (l.drop i)) k=zaC (bs l) (i+k):=by
  rw[zbG,zbG];unfold at8;simp
 rw[e];have:((bs (l.drop i)).size<=k)↔((bs l).size<=i+k):=(by simp;omega);simp only[this]
theorem zq1 (l:Bs) (i:Nat):dec (bs (l.drop i)) 0=dec (bs l) i:=by
 have e:zaC (bs (l.drop i)) 0=zaC (bs l) i:=(by rw[zbG,zbG];unfold at8;simp);unfold dec zhI zsU;rw[e];simp only[zq0,Nat.zero_add]
theorem zuL (x t:Bs) (k:Nat) (h:k<x.length):at8 (x ++ t) k=at8 x k:=by
 unfold at8;rw[List.getD_eq_getElem?_getD,List.getD_eq_getElem?_getD,List.getElem?_append_left h]
theorem zy7 (x t:Bs):at8 (x ++ t) x.length=at8 t 0:=by
 unfold at8;rw[List.getD_eq_getElem?_getD,List.getD_eq_getElem?_getD,List.getElem?_append_right (Nat.le_refl _)];simp
theorem zy8 (x t:Bs) (hx:0<x.length) (ht:t=[]\/at8 t 0<128):dec (bs (x ++ t)) 0=dec (bs x) 0:=by
 have e0:zaC (bs (x ++ t)) 0=zaC (bs x) 0:=(by rw[zbG,zbG];exact zuL x t 0 hx);have A:∀ k a b,k<x.length->zaH (bs (x ++ t)) k a b=zaH (bs x) k a b:=by
  intro k a b h;unfold zaH;rw[zbG,zbG,zuL x t k h];have:((bs (x ++ t)).size<=k)↔((bs x).size<=k):=(by simp;omega);simp only[this]
 have B:∀ k a b,k=x.length->128<=a->zaH (bs (x ++ t)) k a b = -1:=by
  intro k a b h ha;subst h;unfold zaH;rw[if_pos];rcases ht with rfl|ht
  ·left;simp
  ·right;left;rw[zbG,zy7];omega
 have C:∀ k a b,x.length<=k->zaH (bs x) k a b = -1:=by
  intro k a b h;unfold zaH;rw[if_pos (.inl (by simpa using h))]
 have hl3:128<=zfP (zaC (bs x) 0):=(by unfold zfP;split <;> omega);have hl4:128<=zfI (zaC (bs x) 0):=(by unfold zfI;split <;> omega);unfold dec zhI zsU;rw[e0];simp only[Nat.zero_add];rcases (show x.length=1\/x.length=2\/x.length=3\/4<=x.length by omega) with h|h|h|h
 ·simp only[B 1 _ _ h.symm (Int.le_refl _),B 1 _ _ h.symm hl3,B 1 _ _ h.symm hl4,C 1 _ _ (by omega)];simp
 ·simp only[A 1 _ _ (by omega),B 2 _ _ h.symm (Int.le_refl _),C 2 _ _ (by omega)];simp
 ·simp only[A 1 _ _ (by omega),A 2 _ _ (by omega),B 3 _ _ h.symm (Int.le_refl _),C 3 _ _ (by omega)]
 ·simp only[A 1 _ _ (by omega),A 2 _ _ (by omega),A 3 _ _ (by omega)]
theorem zwA (x:Bs) (m k:Nat) (hk:x.length - k<=m):zb4 (bs x) k=zbQ (bs (x.drop k)):=by
 induction m generalizing x k with
 | zero =>
  rw[zb9 _ _ (by simp;omega)];unfold zbQ;rw[zb9 _ _ (by simp;omega)]
 | succ m ihm =>
  by_cases hkx:k<x.length
  ·have hbx:=za7 (bs x) k (by simpa using hkx);unfold zbQ;rw[zdP _ _ (by simpa using hkx),zdP (bs (x.drop k)) 0 (by simp;omega),zq1,Nat.zero_add];congr 1;rw[ihm x _ (by omega),ihm (x.drop k) _ (by simp;omega),List.drop_drop]
  ·rw[zb9 _ _ (by simpa using hkx)];unfold zbQ;rw[zb9 _ _ (by simp;omega)]
theorem zjI (l:Bs) (h:0<l.length):zbQ (bs l)=(zcI (dec (bs l) 0) && zbQ (bs (l.drop (dec (bs l) 0).2.toNat))):=by
 rw[<- zwA l _ _ (Nat.le_refl _)]
 conv=>lhs;unfold zbQ
 rw[zdP _ _ (by simpa using h),Nat.zero_add]
theorem zq2:zbQ (bs [])=true:=zb9 _ _ (by simp)
theorem zBN (c:UInt8) (hc:32<=(c.toNat:Int)/\(c.toNat:Int)<127) (b:Bs):∀ (n:Nat) (a:Bs),a.length<=n->zbQ (bs (a ++ c :: b))=(zbQ (bs a) && zbQ (bs b)):=by
 intro n
 induction n with
 | zero =>
  intro a ha;obtain rfl:a=[]:=List.length_eq_zero_iff.1 (by omega);rw[List.nil_append,zjI (c :: b) (by simp),zq2];have e0:zaC (bs (c :: b)) 0=(c.toNat:Int):=rfl;have e:dec (bs (c :: b)) 0=((c.toNat:Int),1):=(by unfold dec;rw[e0,if_pos (by omega)]);rw[e];have g:zcI ((c.toNat:Int),1)=true:=by
   have h1:zeD (c.toNat:Int)=true:=(by unfold zeD;simp;omega);have h2:((c.toNat:Int) == 65533)=false:=(by rw[beq_eq_false_iff_ne];omega);simp only[zcI,h1,h2];rfl
  rw[g];rfl
 | succ n ih =>
  intro a ha;by_cases h0:a=[]
  ·exact (show a.length<=n->_ from ih a) (by simp [h0])
  ·have hl:=List.length_pos_iff.2 h0;have hb:=za7 (bs a) 0 (by simpa using hl);rw[zjI (a ++ c :: b) (by simp;omega),zjI a hl,zy8 a (c :: b) hl (.inr (by show ((c.toNat:Int))<128;omega))];simp only[zeC] at hb;have e:(a ++ c :: b).drop (dec (bs a) 0).2.toNat=a.drop (dec (bs a) 0).2.toNat ++ c :: b:=List.drop_append_of_le_length (by omega);rw[e,ih _ (by simp;omega),Bool.and_assoc]
theorem zuM:zhJ []=true:=by unfold zhJ;rw[zq2];rfl
theorem zD1 (c:UInt8) (hc:32<=(c.toNat:Int)/\(c.toNat:Int)<127) (a b:Bs):zhJ (a ++ c :: b)=(zhJ a && zhJ b):=by
 unfold zhJ;rw[zBN c hc b _ a (Nat.le_refl _)];have hne:(10 == c)=false:=by
  rw[beq_eq_false_iff_ne];rintro rfl;simp at hc
 have e:(a ++ c :: b).contains 10=(a.contains 10 || b.contains 10):=by
  rw[List.contains_append,List.contains_cons,hne];simp
 rw[e];cases zbQ (bs a) <;> cases zbQ (bs b) <;> cases a.contains 10 <;> cases b.contains 10 <;> rfl
theorem zBO (a x:Bs) (h:∀ b∈a,32<=(b.toNat:Int)/\(b.toNat:Int)<127):zhJ (a ++ x)=zhJ x:=by
 induction a with
 | nil=>rfl
 | cons b a ih =>
  have:=zD1 b (h b (by simp)) [] (a ++ x);rw[List.nil_append,zuM,Bool.true_and] at this;rw[List.cons_append,this];exact ih (fun c hc=>h c (by simp [hc]))
theorem zBP (a:Bs) (h:∀ b∈a,32<=(b.toNat:Int)/\(b.toNat:Int)<127):zhJ a=true:=by
 have:=zBO a [] h;rw[List.append_nil,zuM] at this;exact this
def IntsP (xs:List Int) (w:World) (e:Ending) (w':World):Prop:=∃ v,e=.returned v/\Ints w' v xs/\Kept w w'
theorem zBQ (s:Bs) (i:Nat) (w:World) (hs:s.length<=1100000) (h0:i<s.length) :
  Calls Tryz.prog 235 #[.string (bs s),.int .i64 i] w fun e w'=>e=.returned (.tuple #[.int .i64 (dec (bs s) i).1,.int .i64 (dec (bs s) i).2])/\Kept w w':=by
 have HA:Hid (∀ w,Calls Tryz.prog 203 #[.string (bs s),.int .i64 i] w fun e w'=>e=.returned (.agg #[.int .i64 (dec (bs s) i).1,.int .i64 (dec (bs s) i).2])/\Kept w w'):=fun w=>zx7 (bs s) i w (by simp;omega) (by simpa using h0);generalize dec (bs s) i=p at *;obtain ⟨a,b⟩:=p;go_enter Tryz.func235,Tryz.ntmps235;go_wp2_with fail;refine (HA.out _).mono ?_;rintro e w1 ⟨rfl,hk1⟩;have HK1:=Hd hk1;clear hk1;go_wp2_with fail
 go_quiet (fail)
 go_wp2_with fail;go_ret2;exact ⟨rfl,(HK1.out.trans (zaA _ _)).trans (zaB _ _)⟩
def IntsO (xs:List Int) (w:World) (e:Ending) (w':World):Prop:=∃ v,e=.returned v/\Ints w' v xs/\(∀ g,v.ownBlock=some g->w.heap.size<=g)/\Kept w w'
theorem IntsO.weak {xs:List Int} {w w':World} {e:Ending} (h:IntsO xs w e w'):IntsP xs w e w':=by
 obtain ⟨v,h1,h2,_,h3⟩:=h;exact ⟨v,h1,h2,h3⟩
theorem zkB (l:Bs) (w:World) (hl:l.length<=1100000):Calls Tryz.prog 195 #[.string (bs l)] w (IntsO (zcR l) w):=by
 obtain ⟨i0,hi,hz0,hz1,hz2⟩:=info_parts Tryz.infoInt;have H0:Hid (zcR l=[] ++ zqV l 0):=(by show _=_;rw[ziD];rfl);unfold IntsO;go_enter Tryz.func195,Tryz.ntmps195;go_wp2_with fail;go_loopw [3,4] (fun v i wr=>∃ (k:Nat) (xs:List Int),k<=l.length/\i=.int .i64 k/\xs.length<=k/\wr.ownsRow w.heap.size 3 1 v xs.length (zi6 xs)/\Hid (zcR l=xs ++ zqV l k)/\Hid (Kept w wr)) (fun _ i _=>l.length - (intOf i).toNat)
 case atStart=>exact ⟨0,[],Nat.zero_le _,rfl,Nat.le_refl _,World.ownsRow_nil _ _ _ _,H0,Kept.refl _⟩
 case round =>
  obtain ⟨k,xs,hk,rfl,hxl,hown,HA,HK⟩:=hrel;by_cases hlt:k<l.length
  ·have hb:=za7 (bs l) k hlt;have HP:=Hd (zlW l k hlt);have HN:=Hd (fun w=>zBQ l k w hl hlt);obtain ⟨c,n,hd⟩:∃ c n,dec (bs l) k=(c,n):=⟨(dec (bs l) k).1,(dec (bs l) k).2,rfl⟩;simp only[hd] at hb HP HN;obtain ⟨b1,b2,b3,b4,b5⟩:=hb;simp only[zeC] at b5;have HOWN:=Hd hown;clear hd hown;go_wp2_with fail;refine (HN.out _).mono ?_;rintro e w1 ⟨rfl,hk1⟩;have HK1:=Hd (HK.out.trans hk1);have hown1:=zaP HOWN.out hk1;have hs1:w.heap.size<=w1.heap.size:=HK1.out.size;clear hk1;go_wp2_with (at_builtin;refine wpList_append_own _ rfl _ _ 199 rfl w.heap.size 3 i0 (.int .i64 0) 1 8 Tryz.underlying199 hi hz0 hz1 hz2 rfl (by decide) _ _ _ rfl (hown1.alloc _) ⟨w1.heap.size,0,none⟩ 1 1 [.int .i64 c] rfl rfl ?_ ?_ ?_ ?_ ?_ ?_)
   ·exact za0 _ #[.int .i64 c] _ _ (by simp)
   ·intro u hu;simp at hu;subst hu;rfl
   ·unfold maxLen;omega
   ·omega
   ·simp;omega
   intro v' w2 hown2 hgrow2 _;have HB2:=Hd ((HK1.out.trans (zaA w1 _)).trans' (zaI (hown1.alloc _) hgrow2 (by simp;omega)));rw[<- zgD] at hown2;have HO:=Hd hown2;clear hown2 hgrow2 hown1;go_wp2_with fail;go_roundw
   case rel=>exact ⟨k+n.toNat,xs ++ [c],by omega,by go_num,by simp;omega,by simpa using HO.out,by show _=_;rw[HA.out,HP.out];simp,HB2.out⟩
   case measure=>simp [intOf];omega
  ·have HI:=Hd (Ints.own hown);have HLT:=Hd (fun g hg=>(hown.lt g hg).1);have HL:Hid (zcR l=xs):=by
    show _=_;rw[HA.out,zgY l k hlt,List.append_nil]
   clear hown;go_wp2_with fail;go_ret;exact ⟨_,rfl,by rw[HL.out];exact HI.out,HLT.out,HK.out⟩
theorem zeM (l:Bs) (w:World) (hl:l.length<=1100000):Calls Tryz.prog 195 #[.string (bs l)] w (IntsP (zcR l) w):=(zkB l w hl).mono fun _ _ h=>h.weak
theorem zy9 (v:Value) (xs:List Int) (x:Int) (w:World) (hv:Ints w v xs) (hl:xs.length<=10000000) :
  Calls Tryz.prog 196 #[v,.int .i64 x] w fun e w'=>e=.returned (.bool (xs.contains x))/\w=w':=by
 have HV:=Hd hv;obtain ⟨a,c,rfl,hc,h3⟩:=hv;clear h3;have HF:Hid (∀ k (hk:k<xs.length),xs[k]=x->xs.contains x=true):=by
  intro k hk h;rw[List.contains_iff_mem,<- h];exact List.getElem_mem hk
 have HT:Hid ((∀ k (hk:k<xs.length),k<xs.length->xs[k]≠x)->xs.contains x=false):=by
  intro h;rw[Bool.eq_false_iff];intro q;rw[List.contains_iff_mem] at q;obtain ⟨k,hk,e⟩:=List.getElem_of_mem q;exact h k hk hk e
 generalize xs.contains x=R at *;go_enter Tryz.func196,Tryz.ntmps196;go_wp2_with fail
 go_loop [5] (fun i=>∃ k:Nat,k<=xs.length/\i=.int .i64 k/\Hid (∀ j (hj:j<xs.length),j<k->xs[j]≠x)) (fun i=>xs.length - (intOf i).toNat)
 case atStart=>exact ⟨0,Nat.zero_le _,rfl,fun j hj h=>by omega⟩
 case round =>
  obtain ⟨k,hk,rfl,HN⟩:=hrel;by_cases hlt:k<xs.length
  ·obtain ⟨y,hx⟩:∃ y,xs[k]? = some y:=⟨_,List.getElem?_eq_getElem hlt⟩;obtain ⟨a',c',hv',hc',h3⟩:=HV.out;obtain ⟨rfl,hdead,rfl⟩:=Value.slice.inj hv';clear hdead hc';obtain ⟨g,o,rfl,hg,hcell⟩:=h3 (by omega);have d0:=hcell k y hx;have HE:Hid (xs[k]=y):=by
    obtain ⟨_,e⟩:=List.getElem?_eq_some_iff.1 hx;exact e
   clear hcell h3 hv' hx;by_cases hy:y=x
   ·have HR:=Hd (HF.out k hlt (HE.out.trans hy));subst hy;go_wp2_with fail;go_ret;exact ⟨zaN HR.out.symm,rfl⟩
   ·have HS:Hid (∀ j (hj:j<xs.length),j<k+1->xs[j]≠x):=by
     intro j hj hjk;rcases Nat.lt_or_ge j k with q|q
     ·exact HN.out j hj q
     ·obtain rfl:j=k:=(by omega);rw[HE.out];exact hy
    have hy':(y == x)=false:=(by simpa using hy);go_wp2_with fail
    go_round
    case rel=>exact ⟨k+1,by omega,by go_num,HS.out⟩
    case measure=>simp [intOf];omega
  ·obtain rfl:k=xs.length:=(by omega);have HR:=Hd (HT.out (fun k hk _=>HN.out k hk hk));go_wp2_with fail;go_ret;exact ⟨zaN HR.out.symm,rfl⟩
end Go.Proofs.YtmcoomlkbgiboaaGreatDoor
