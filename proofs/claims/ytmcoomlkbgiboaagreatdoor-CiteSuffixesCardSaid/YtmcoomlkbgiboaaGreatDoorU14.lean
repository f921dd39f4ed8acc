/- strings.IndexAny at ASCII sets, every text: the place. Conditions: lengths. -/
import Derived.Test.YtmcoomlkbgiboaaGreatDoorU06
import Derived.Test.YtmcoomlkbgiboaaGreatDoorU13
import Derived.Test.YtmcoomlkbgiboaaGreatDoorU05
set_option linter.all false
set_option maxRecDepth 100000
set_option maxHeartbeats 1600000
namespace Go.Proofs.YtmcoomlkbgiboaaGreatDoor
open Go.RowKit
def IdxPost (l cs:Bs) (w:World) (e:Ending) (w':World):Prop:=e=.returned (.int .i64 (Lib.indexAny l cs))/\Kept w w'
theorem zjZ (cs:Bs):∀ (l:Bs) (pos:Nat),(∀ b∈l.take pos,zbN cs b=false)->(∃ x,l[pos]? = some x/\zbN cs x=true)->Lib.indexAny l cs=(pos:Int)
 | [],pos,_,⟨x,hx,_⟩=>by simp at hx
 | b :: l,0,_,⟨x,hx,hc⟩=>by
  simp at hx;subst hx;unfold zbN at hc;rw[Lib.indexAny,if_pos hc];rfl
 | b :: l,pos+1,h,⟨x,hx,hc⟩=>by
  have hb:cs.contains b=false:=h b (by simp);have ih:=zjZ cs l pos (fun y hy=>h y (by rw[List.take_succ_cons];exact List.mem_cons_of_mem _ hy)) ⟨x,by simpa using hx,hc⟩;rw[Lib.indexAny,hb,ih];have:((pos:Int) == -1)=false:=(by rw[beq_eq_false_iff_ne];omega);rw[this];simp
theorem zh8 (cs:Bs):∀ l:Bs,(∀ b∈l,zbN cs b=false)->Lib.indexAny l cs = -1
 | [],_=>rfl
 | b :: l,h=>by
  have hb:cs.contains b=false:=h b (by simp);rw[Lib.indexAny,hb,zh8 cs l (fun y hy=>h y (List.mem_cons_of_mem _ hy))];rfl
theorem ztT (f:UInt8->Bool) (l:Bs) (pos:Nat) (h:pos<l.length) (h1:∀ b∈l.take pos,f b=false) (h2:f l[pos]=false):∀ b∈l.take (pos+1),f b=false:=by
 intro b hb;rw[List.take_succ_eq_append_getElem h] at hb;rcases List.mem_append.1 hb with q|q
 ·exact h1 b q
 ·simp at q;rw[q];exact h2
theorem zqL (f:UInt8->Bool) (hf:∀ b:UInt8,128<=(b.toNat:Int)->f b=false) (l:Bs):∀ (n i:Nat),(∀ b∈l.take i,f b=false)->(∀ j,j<n->128<=zaC (bs l) (i+j))->∀ b∈l.take (i+n),f b=false
 | 0,i,h,_=>h
 | n+1,i,h,hh=>by
  rcases Nat.lt_or_ge i l.length with q|q
  ·have h1:=hh 0 (by omega);rw[Nat.add_zero,zbG,zbI l i q] at h1;have:=zqL f hf l n (i+1) (ztT f l i q h (hf _ h1)) (fun j hj=>by have:=hh (j+1) (by omega);rwa [show i+1+j=i+(j+1) from by omega])
   rwa [show i+(n+1)=i+1+n from by omega]
  ·intro b hb;rw[List.take_of_length_le (by omega)] at hb;exact h b (by rw[List.take_of_length_le q];exact hb)
theorem zvK (l cs:Bs) (w:World) (hcs:Ascii cs) (hl:cs.length<=1000) (h2:2<=cs.length) (h8:l.length<=8) :
  Calls Tryz.prog 118 #[.string (bs l),.string (bs cs)] w (IdxPost l cs w):=by
 have hne1:((cs.length:Int) == 1)=false:=(by rw[beq_eq_false_iff_ne];omega);have hce:cs.isEmpty=false:=(by cases cs <;> simp at h2 ⊢);have hce':¬ cs=[]:=(by cases cs <;> simp at h2 ⊢);have hf:∀ b:UInt8,128<=(b.toNat:Int)->zbN cs b=false:=fun b hb=>by
  unfold zbN;rw[Bool.eq_false_iff];intro q;have:=hcs b (by simpa using q);omega
 have HF:=Hd hf;clear hf;go_enter Tryz.func118,Tryz.ntmps118;go_wp2_with (go_at_call 159;refine (Tryz.strings_shouldUseASCIISet _ _).mono ?_;rintro e w' ⟨rfl,hw⟩;obtain rfl:=hw.symm);go_loopw [9] (fun u wr=>∃ pos:Nat,pos<=l.length/\wr.heap[w.heap.size]? = some (.stringIter (bs l) pos)/\Kept w wr/\Hid (∀ b∈l.take pos,zbN cs b=false)) (fun u wr=>l.length - wr.iterPos w.heap.size)
 case atStart=>exact ⟨0,Nat.zero_le _,World.iter_heap _ _ _,zaA _ _,(by show ∀ b∈_,_;simp)⟩
 case round =>
  obtain ⟨pos,hp,hit,hk,HA⟩:=hrel;have hip:wr.iterPos w.heap.size=pos:=(by simp [World.iterPos,hit]);have hsz:w.heap.size<wr.heap.size:=by
   rcases Nat.lt_or_ge w.heap.size wr.heap.size with q|q
   ·exact q
   ·rw[Array.getElem?_eq_none q] at hit;cases hit
  by_cases hlt:pos<l.length
  ·have nx:=fun ty=>zc0 (P:=Tryz.prog) wr w.heap.size (bs l) pos ty hit hlt;have hb:=za6 (bs l) pos hlt;have h0:=zgA l pos;have hit2:∀ p,(wr.iterAt w.heap.size (bs l) p).heap[w.heap.size]? = some (.stringIter (bs l) p):=fun p=>Lib.iterAt_heap wr w.heap.size (bs l) pos p hit;have hk2:∀ p,Kept w (wr.iterAt w.heap.size (bs l) p):=fun p=>Lib.below_iterAt hk (Nat.le_refl _) (bs l) p;have HIT:=Hd hit2;have HK2:=Hd hk2;have HIP:=Hd hip;clear hit2 hk2 hip;by_cases ha:at8 l pos<128
   ·have HL1:=Hd (fun h:zbN cs l[pos]=true=>zjZ cs l pos HA.out ⟨l[pos],List.getElem?_eq_getElem hlt,h⟩);have HL2:=Hd (fun h:zbN cs l[pos]=false=>ztT (zbN cs) l pos hlt HA.out h);rw[zh0 l pos ha] at nx;simp only at nx;have HB:Hid (at8 l pos=(l[pos].toNat:Int)):=zbI l pos hlt;generalize l[pos]=x at *;generalize at8 l pos=c at *;have HX:Hid (∀ w,Calls Tryz.prog 158 #[.string (bs cs),.int .i32 c] w fun e w'=>e=.returned (.int .i64 (Lib.indexByte cs x))/\w=w'):=by
     intro w;refine (Tryz.strings_IndexRune_ascii (bs cs) c w h0 ha).mono ?_;rintro e w' ⟨rfl,rfl⟩;refine ⟨?_,rfl⟩;rw[HB.out,Int.toNat_natCast,show x.toNat.toUInt8=x from by simp,zfL]
    have HC:Hid (decide (0<=Lib.indexByte cs x)=zbN cs x):=za9 x cs;have hge:=Lib.indexByte_ge cs x;generalize Lib.indexByte cs x=r at *;by_cases hr:0<=r
    ·go_wp2_with fail;refine (HX.out _).mono ?_;rintro e w1 ⟨rfl,rfl⟩;go_wp2_with fail;go_ret;exact ⟨zaK (HL1.out (by rw[<- HC.out];exact decide_eq_true hr)).symm,HK2.out _⟩
    ·go_wp2_with fail;refine (HX.out _).mono ?_;rintro e w1 ⟨rfl,rfl⟩;go_wp2_with fail;go_roundw
     case rel=>exact ⟨pos+1,by omega,HIT.out _,HK2.out _,HL2.out (by rw[<- HC.out];exact decide_eq_false (by omega))⟩
     case measure=>rw[HIP.out];have:=HIT.out (pos+1);simp [World.iterPos,this];omega
   ·have HS:Hid (∀ b∈l.take (pos+(dec (bs l) pos).2.toNat),zbN cs b=false):=zqL (zbN cs) HF.out l _ pos HA.out (zh1 (bs l) pos (by rw[zbG];omega)).2;have hc:=(zh1 (bs l) pos (by rw[zbG];omega)).1;obtain ⟨c,n,hd⟩:∃ c n,dec (bs l) pos=(c,n):=⟨(dec (bs l) pos).1,(dec (bs l) pos).2,rfl⟩;rw[hd] at nx hb HS hc;simp only at nx hb HS hc;obtain ⟨b1,b2,b3,b4,b5⟩:=hb;simp only[zeE] at b5;have HX:Hid (∀ w,Calls Tryz.prog 158 #[.string (bs cs),.int .i32 c] w fun e w'=>e=.returned (.int .i64 (-1))/\Kept w w'):=by
     intro w;by_cases q:c=65533
     ·rw[q];exact zp9 cs w hcs hl
     ·refine (zp8 cs c w hc b2 (by rw[beq_eq_false_iff_ne];exact q) hcs hl).mono ?_;rintro e w' ⟨rfl,n,rfl⟩;exact ⟨rfl,zaB _ _⟩
    clear hd;go_wp2_with fail;refine (HX.out _).mono ?_;rintro e w1 ⟨rfl,hk1⟩;have HK1:=Hd hk1;clear hk1;go_wp2_with fail;go_roundw
    case rel =>
     refine ⟨pos+n.toNat,by omega,?_,(HK2.out _).trans HK1.out,HS.out⟩;rw[HK1.out.block _ (by rw[Lib.iterAt_size];exact hsz)];exact HIT.out _
    case measure =>
     have:=HIT.out (pos+n.toNat);rw[<- HK1.out.block _ (by rw[Lib.iterAt_size];exact hsz)] at this;rw[HIP.out];simp [World.iterPos,this];omega
  ·have nx:=fun ty=>zbR (P:=Tryz.prog) wr w.heap.size (bs l) pos ty hit hlt;go_wp2_with fail;go_ret;exact ⟨zaK (zh8 cs l (fun b hb=>HA.out b (by rw[List.take_of_length_le (by omega)];exact hb))).symm,hk⟩
theorem zBc (l cs:Bs) (w:World) (hcs:Ascii cs) (hl:cs.length<=1000) (h2:2<=cs.length) (hs:l.length<=1000000000) :
  Calls Tryz.prog 118 #[.string (bs l),.string (bs cs)] w (IdxPost l cs w):=by
 by_cases h8:l.length<=8
 ·exact zvK l cs w hcs hl h2 h8
 ·refine (Tryz.strings_IndexAny_long ztM (bs l) (bs cs) w (by simpa using h2) (by simp;omega) (by simp;omega) (by simp;omega) (fun j b hb=>?_)).mono ?_
  ·have:=hcs b (List.mem_of_getElem? (by simpa using hb));omega
  ·rintro e w' ⟨rfl,rfl⟩;exact ⟨rfl,(zaA _ _).trans (zaA _ _)⟩
def lnB (l:Bs):Bool:=zbQ (bs l) && !l.contains 10
def zd7 (b:UInt8):Bool:=decide (97<=(b.toNat:Int)) && decide ((b.toNat:Int)<=122)
def za7 (l:Bs) (most:Int) (more:Bs):Bool:=decide (1<=l.length) && (decide ((l.length:Int)<=most) && l.all fun b=>zd7 b || more.contains b)
structure Pc where
 txt:Bs
 fld:Bool
 grp:Nat
def zcA:Bs:=[123,125,91,93]
def znK (l:Bs):Nat:=if Lib.indexAny l zcA<0 then l.length else (Lib.indexAny l zcA).toNat
def zhK:Nat->Bs->Nat->Nat->Option (List Pc)
 | 0,_,_,_=>none
 | _+1,[],_,g=>if g=0 then some [] else none
 | f+1,b :: r,gs,g =>
  if zbN zcA b=false then (zhK f ((b :: r).drop (znK (b :: r))) gs g).map fun l=>⟨(b :: r).take (znK (b :: r)),false,g⟩ :: l
  else if b=123 then
   if zaP 125 r<r.length/\za7 (r.take (zaP 125 r)) 20 []=true then (zhK f (r.drop (zaP 125 r+1)) gs g).map fun l=>⟨r.take (zaP 125 r),true,g⟩ :: l else none
  else if b=91/\g=0 then zhK f r (gs+1) (gs+1)
  else if b=93/\g≠0 then zhK f r gs 0
  else none
def zkM (t:Bs):Option (List Pc):=zhK (t.length+1) t 0 0
def zcW (t:Bs):Int:=if lnB t=false then 17 else if (zkM t).isSome=true then 0 else 5
def zeK (t:Bs):List Pc:=if zcW t=0 then (zkM t).getD [] else []
theorem zd8 (f gs g:Nat):zhK (f+1) [] gs g=if g=0 then some [] else none:=rfl
theorem zfQ {b:UInt8} {r:Bs} (f gs g:Nat) (h:zbN zcA b=false):zhK (f+1) (b :: r) gs g=(zhK f ((b :: r).drop (znK (b :: r))) gs g).map fun l=>⟨(b :: r).take (znK (b :: r)),false,g⟩ :: l:=by
 rw[zhK,if_pos h]
theorem zgT {r:Bs} (f gs g:Nat):zhK (f+1) (123 :: r) gs g=if zaP 125 r<r.length/\za7 (r.take (zaP 125 r)) 20 []=true then (zhK f (r.drop (zaP 125 r+1)) gs g).map fun l=>⟨r.take (zaP 125 r),true,g⟩ :: l else none:=by
 rw[zhK,if_neg (by decide),if_pos rfl]
theorem ze2 {r:Bs} (f gs g:Nat):zhK (f+1) (91 :: r) gs g=if g=0 then zhK f r (gs+1) (gs+1) else none:=by
 rw[zhK,if_neg (by decide),if_neg (by decide)];by_cases h:g=0
 ·rw[if_pos ⟨rfl,h⟩,if_pos h]
 ·rw[if_neg (fun q=>h q.2),if_neg (fun q=>absurd q.1 (by decide)),if_neg h]
theorem ze3 {r:Bs} (f gs g:Nat):zhK (f+1) (93 :: r) gs g=if g=0 then none else zhK f r gs 0:=by
 rw[zhK,if_neg (by decide),if_neg (by decide),if_neg (fun q=>absurd q.1 (by decide))];by_cases h:g=0
 ·rw[if_neg (fun q=>q.2 h),if_pos h]
 ·rw[if_pos ⟨rfl,h⟩,if_neg h]
theorem zgU {r:Bs} (f gs g:Nat):zhK (f+1) (125 :: r) gs g=none:=by
 rw[zhK,if_neg (by decide),if_neg (by decide),if_neg (fun q=>absurd q.1 (by decide)),if_neg (fun q=>absurd q.1 (by decide))]
theorem zcX {b:UInt8} (h:zbN zcA b=true):b=123\/b=125\/b=91\/b=93:=by
 unfold zbN zcA at h;simpa using h
theorem zhL (cs:Bs):∀ l:Bs,Lib.indexAny l cs<(l.length:Int)
 | []=>by rw[Lib.indexAny];simp
 | b :: l=>by
  have ih:=zhL cs l;rw[Lib.indexAny]
  split
  ·simp only[List.length_cons];omega
  ·split
   ·simp only[List.length_cons];omega
   ·simp only[List.length_cons];omega
theorem zqM {b:UInt8} {r:Bs} (h:zbN zcA b=true):Lib.indexAny (b :: r) zcA=0:=by
 unfold zbN at h;rw[Lib.indexAny,if_pos h]
theorem ztU {b:UInt8} {r:Bs} (h:zbN zcA b=false):(Lib.indexAny (b :: r) zcA = -1/\znK (b :: r)=r.length+1)\/(∃ k:Nat,Lib.indexAny (b :: r) zcA=(k:Int)/\znK (b :: r)=k/\0<k/\k<=r.length):=by
 have hge:=Lib.indexAny_ge zcA (b :: r);unfold zbN at h;have hne:Lib.indexAny (b :: r) zcA≠0:=by
  rw[Lib.indexAny,h];have:=Lib.indexAny_ge zcA r;simp only[Bool.false_eq_true,if_false]
  split
  ·omega
  ·rename_i q;rw[Bool.not_eq_true,beq_eq_false_iff_ne] at q;omega
 by_cases q:Lib.indexAny (b :: r) zcA = -1
 ·refine .inl ⟨q,?_⟩;unfold znK;rw[if_pos (by omega)];simp
 ·refine .inr ⟨(Lib.indexAny (b :: r) zcA).toNat,by omega,?_,by omega,?_⟩
  ·unfold znK;rw[if_neg (by omega)]
  ·have:=zhL zcA (b :: r);simp only[List.length_cons] at this;omega
theorem zh9 (l:Bs) (w:World) (hl:l.length<=1000000000):Calls Tryz.prog 85 #[.string (bs l)] w fun e w'=>e=.returned (.bool (lnB l))/\Kept w w':=by
 have HV:=Hd (fun w=>zlB (bs l) w (by simpa using hl));have HC:=Hd (fun w=>Tryz.strings_Contains_one (bs l) 10 w);simp only[zfL] at HC;have HCC:Hid (decide (0<=Lib.indexByte l 10)=List.contains l 10):=za9 10 l;have HL:Hid (lnB l=(zbQ (bs l) && !l.contains 10)):=rfl;generalize lnB l=R at *;generalize zbQ (bs l)=V at *;generalize List.contains l 10=C at *;go_enter Tryz.func85,Tryz.ntmps85;go_wp2_with fail;refine (HV.out _).mono ?_;rintro e w1 ⟨rfl,n,rfl⟩;cases V with
 | false =>
  go_wp2_with fail;go_ret;exact ⟨zaO (by rw[HL.out];rfl),zaB _ _⟩
 | true =>
  go_wp2_with fail;refine (HC.out _).mono ?_;rintro e w2 ⟨rfl,rfl⟩;go_wp2_with fail;go_ret;exact ⟨zaO (by rw[HL.out,<- HCC.out,Bool.true_and];exact congrArg not (decide_eq_decide.2 Iff.rfl)),zaB _ _⟩
theorem zi8 (l more:Bs) (most:Int) (w:World) (hl:l.length<=1000000000):Calls Tryz.prog 82 #[.string (bs l),.int .i64 most,.string (bs more)] w fun e w'=>e=.returned (.bool (za7 l most more))/\Kept w w':=by
 have HX:=Hd (fun c w=>Tryz.strings_IndexByte (bs more) c w);simp only[zfL] at HX;have HF:Hid (∀ k (hk:k<l.length),zd7 l[k]=false->more.contains l[k]=false->za7 l most more=false):=by
  intro k hk h1 h2;unfold za7;have:(l.all fun b=>zd7 b || more.contains b)=false:=List.all_eq_false.2 ⟨l[k],List.getElem_mem hk,by rw[h1,h2];simp⟩;rw[this];simp
 have HT:Hid ((∀ k (hk:k<l.length),zd7 l[k]=true\/more.contains l[k]=true)->za7 l most more=(decide (1<=l.length) && decide ((l.length:Int)<=most))):=by
  intro h;unfold za7;have:(l.all fun b=>zd7 b || more.contains b)=true:=List.all_eq_true.2 (fun b hb=>by
   obtain ⟨k,hk,e⟩:=List.getElem_of_mem hb;have:=h k hk;rw[e] at this;rcases this with q|q <;> rw[q] <;> simp)
  rw[this];simp
 by_cases h0:l=[]
 ·subst h0;go_enter Tryz.func82,Tryz.ntmps82;go_wp2_with fail;go_ret;exact ⟨rfl,Kept.refl _⟩
 have h0':(l == ([]:Bs))=false:=(by simpa using h0);have hl0:1<=l.length:=(by cases l <;> simp at h0 ⊢);by_cases h1:most<(l.length:Int)
 ·have HE:Hid (za7 l most more=false):=by
   show _=_;unfold za7;rw[decide_eq_false (show ¬ (l.length:Int)<=most by omega)];simp
  obtain ⟨R,HR⟩:∃ R,Hid (za7 l most more=R):=⟨_,rfl⟩;rw[HR.out] at HE ⊢;go_enter Tryz.func82,Tryz.ntmps82;go_wp2_with fail;go_ret;exact ⟨zaO HE.out.symm,Kept.refl _⟩
 have HE:Hid ((∀ k (hk:k<l.length),zd7 l[k]=true\/more.contains l[k]=true)->za7 l most more=true):=by
  intro h;rw[HT.out h,decide_eq_true hl0,decide_eq_true (show (l.length:Int)<=most by omega)];rfl
 obtain ⟨R,HR⟩:∃ R,Hid (za7 l most more=R):=⟨_,rfl⟩;rw[HR.out] at HE HF ⊢;clear HT HR hl0;go_enter Tryz.func82,Tryz.ntmps82;go_wp2_with fail
 go_loop [18] (fun i=>∃ k:Nat,k<=l.length/\i=.int .i64 k/\Hid (∀ j (hj:j<l.length),j<k->zd7 l[j]=true\/more.contains l[j]=true)) (fun i=>l.length - (intOf i).toNat)
 case atStart=>exact ⟨0,Nat.zero_le _,rfl,fun j hj h=>by omega⟩
 case round =>
  obtain ⟨k,hk,rfl,HN⟩:=hrel;by_cases hlt:k<l.length
  ·have i0:=zd3 (P:=Tryz.prog) (t:=9) Tryz.underlying9 l k hlt k rfl;have h8:=zgA l k;have HB:Hid (at8 l k=(l[k].toNat:Int)):=zbI l k hlt;have HLO:Hid (zd7 l[k]=(decide (97<=at8 l k) && decide (at8 l k<=122))):=by
    show _=_;rw[zbI l k hlt];rfl
   have HIX:Hid (decide (0<=Lib.indexByte more (at8 l k).toNat.toUInt8)=more.contains l[k]):=by
    show _=_;rw[HB.out,Int.toNat_natCast,show (l[k].toNat).toUInt8=l[k] from by simp,za9]
   have HFK:=Hd (HF.out k hlt);have HNK:Hid ((zd7 l[k]=true\/more.contains l[k]=true)->∀ j (hj:j<l.length),j<k+1->zd7 l[j]=true\/more.contains l[j]=true):=by
    intro h j hj hjk;rcases Nat.lt_or_ge j k with q|q
    ·exact HN.out j hj q
    ·obtain rfl:j=k:=(by omega);exact h
   have hge:=Lib.indexByte_ge more (at8 l k).toNat.toUInt8;have HXK:=Hd (fun w=>HX.out (at8 l k) w);by_cases hlow:97<=at8 l k/\at8 l k<=122
   ·obtain ⟨q1,q2⟩:=hlow;have HS:=Hd (HNK.out (.inl (by rw[HLO.out,decide_eq_true q1,decide_eq_true q2];rfl)));have b1:¬ at8 l k<97:=(by omega);have b2:¬ 122<at8 l k:=(by omega);generalize at8 l k=b at *;clear HNK HFK HXK HIX hge q1 q2 HLO HB;go_wp2_with fail
    go_round
    case rel=>exact ⟨k+1,by omega,by go_num,HS.out⟩
    case measure=>simp [intOf];omega
   ·have HLF:Hid (zd7 l[k]=false):=by
     show _=_;rw[HLO.out,Bool.and_eq_false_iff,decide_eq_false_iff_not,decide_eq_false_iff_not];omega
    have hlow':at8 l k<97\/122<at8 l k:=(by omega);generalize Lib.indexByte more (at8 l k).toNat.toUInt8=r at *;by_cases hr:0<=r
    ·have HS:=Hd (HNK.out (.inr (by rw[<- HIX.out];exact decide_eq_true hr)));have hr':¬ r<0:=(by omega);generalize at8 l k=b at *;clear HNK HFK HIX HLO HB HLF hlow;by_cases q1:b<97
     ·clear hlow';go_wp2_with fail;refine (HXK.out _).mono ?_;rintro e w2 ⟨rfl,rfl⟩;go_wp2_with fail
      go_round
      case rel=>exact ⟨k+1,by omega,by go_num,HS.out⟩
      case measure=>simp [intOf];omega
     ·have q2:122<b:=(by omega);clear hlow';go_wp2_with fail;refine (HXK.out _).mono ?_;rintro e w2 ⟨rfl,rfl⟩;go_wp2_with fail
      go_round
      case rel=>exact ⟨k+1,by omega,by go_num,HS.out⟩
      case measure=>simp [intOf];omega
    ·have HR:=Hd (HFK.out HLF.out (by rw[<- HIX.out];exact decide_eq_false hr));have hr':r<0:=(by omega);generalize at8 l k=b at *;clear HNK HFK HIX HLO HB HLF hlow;by_cases q1:b<97
     ·clear hlow';go_wp2_with fail;refine (HXK.out _).mono ?_;rintro e w2 ⟨rfl,rfl⟩;go_wp2_with fail;go_ret;exact ⟨zaO HR.out.symm,Kept.refl _⟩
     ·have q2:122<b:=(by omega);clear hlow';go_wp2_with fail;refine (HXK.out _).mono ?_;rintro e w2 ⟨rfl,rfl⟩;go_wp2_with fail;go_ret;exact ⟨zaO HR.out.symm,Kept.refl _⟩
  ·obtain rfl:k=l.length:=(by omega);have HR:=Hd (HE.out (fun k hk=>HN.out k hk hk));go_wp2_with fail;go_ret;exact ⟨zaO HR.out.symm,Kept.refl _⟩
def zsQ (l:Bs) (k:Nat):List Int:=(zbM (bs l) k).map (·.1)
theorem zlJ (l:Bs):zsQ l 0=zeV l:=rfl
theorem zoL (l:Bs) (k:Nat) (h:k<l.length):zsQ l k=(dec (bs l) k).1 :: zsQ l (k+(dec (bs l) k).2.toNat):=by
 unfold zsQ;rw[zd6 (bs l) k (by simpa using h)];rfl
theorem ziA (l:Bs) (k:Nat) (h:¬ k<l.length):zsQ l k=[]:=by
 unfold zsQ;rw[zdL (bs l) k (by simpa using h)];rfl
theorem ziB (l:Bs):(zeV l).length<=l.length:=by
 unfold zeV zf0;rw[List.length_map];have:=zsL (bs l) 0;simpa using this
end Go.Proofs.YtmcoomlkbgiboaaGreatDoor
