/- strings.ContainsAny at every text and a short set of ASCII letters. Conditions: lengths. -/
import Derived.Test.YtmcoomlkbgiboaaGreatDoorU05
import Derived.Test.YtmcoomlkbgiboaaGreatDoorU03
import Derived.Test.YtmcoomlkbgiboaaGreatDoorU01
import Derived.Test.YtmcoomlkbgiboaaGreatDoorU02
set_option linter.all false
set_option maxRecDepth 100000
set_option maxHeartbeats 1600000
namespace Go.Proofs.YtmcoomlkbgiboaaGreatDoor
open Go.RowKit
def zoC (r:Int):Bs:=(Utf8.encode r).data.toList
theorem zp7 (r:Int):Utf8.encode r=bs (zoC r):=rfl
theorem zlC (n:Nat) (h:n<256) (k:128<=n):128<=((UInt8.ofNat n).toNat:Int):=by
 rw[UInt8.toNat_ofNat',Nat.mod_eq_of_lt h];omega
theorem zA0 (r:Int) (h:128<=r):2<=(zoC r).length/\(zoC r).length<=4/\∀ b∈zoC r,128<=(b.toNat:Int):=by
 have hc:128<=(if Utf8.valid r then r.toNat else Utf8.runeError)/\(if Utf8.valid r then r.toNat else Utf8.runeError)<=1114111:=by
  split
  ·rename_i hv;unfold Utf8.valid at hv;simp only[Bool.or_eq_true,Bool.and_eq_true,decide_eq_true_eq] at hv;omega
  ·unfold Utf8.runeError;omega
 unfold zoC Utf8.encode;generalize (if Utf8.valid r then r.toNat else Utf8.runeError)=c at *;simp only;rw[if_neg (by omega)]
 split
 ·refine ⟨by simp,by simp,?_⟩;intro b hb;simp only[List.mem_cons,List.not_mem_nil,or_false] at hb;rcases hb with rfl|rfl <;> exact zlC _ (by omega) (by omega)
 split
 ·refine ⟨by simp,by simp,?_⟩;intro b hb;simp only[List.mem_cons,List.not_mem_nil,or_false] at hb;rcases hb with rfl|rfl|rfl <;> exact zlC _ (by omega) (by omega)
 ·refine ⟨by simp,by simp,?_⟩;intro b hb;simp only[List.mem_cons,List.not_mem_nil,or_false] at hb;rcases hb with rfl|rfl|rfl|rfl <;> exact zlC _ (by omega) (by omega)
theorem zsM (l:Bs) (j:Nat) (h:j<l.length):∃ b∈l,at8 l j=(b.toNat:Int):=⟨l[j],List.getElem_mem h,zbI l j h⟩
def Ascii (cs:Bs):Prop:=∀ b∈cs,(b.toNat:Int)<128
theorem zoD (c:UInt8) (l:Bs) (h:c ∉ l):Lib.indexByte l c = -1:=by
 have h1:=za9 c l;have h2:=Lib.indexByte_ge l c;have h3:l.contains c=false:=(by simpa using h);rw[h3] at h1;simp at h1;omega
theorem zp8 (cs:Bs) (r:Int) (w:World) (hr:128<=r) (hr2:r<=2000000) (hne:(r == 65533)=false) (hcs:Ascii cs) (hl:cs.length<=1000) :
  Calls Tryz.prog 158 #[.string (bs cs),.int .i32 r] w fun e w'=>e=.returned (.int .i64 (-1))/\∃ n,w'=w.drewN n:=by
 obtain ⟨v,hv⟩:∃ v,Lib.validRune r=v:=⟨_,rfl⟩;cases v
 ·go_enter Tryz.func158,Tryz.ntmps158;go_wp2_with (go_at_call 206;refine (Tryz.utf8_ValidRune _ _).mono ?_;rintro e w' ⟨rfl,rfl⟩);go_ret;exact ⟨rfl,0,rfl⟩
 ·obtain ⟨e1,e2,e3⟩:=zA0 r hr;have hen:=zp7 r;generalize zoC r=rs at *;have hlast:rs.length - 1<rs.length:=(by omega);obtain ⟨b,hb,hbe⟩:=zsM rs (rs.length - 1) hlast;have i0:=zd3 (P:=Tryz.prog) (t:=9) Tryz.underlying9 rs (rs.length - 1) hlast (rs.length - 1) (by omega);have hbig:=e3 b hb;have hbl:(b.toNat:Int)<256:=(by have:=b.toNat_lt;omega);have hnot:∀ k,Lib.indexByte (cs.drop k) b = -1:=fun k=>zoD b _ (fun q=>by have:=hcs b (List.mem_of_mem_drop q);omega);obtain ⟨c,hc⟩:∃ c:Int,c=b.toNat:=⟨_,rfl⟩;rw[hbe,<- hc] at i0;have hb1:∀ x:Bs,Lib.indexByte x b = -1->∀ w,Calls Tryz.prog 131 #[.string (bs x),.int .u8 c] w fun e w'=>e=.returned (.int .i64 (-1))/\w'=w:=by
   intro x hx w;refine (Tryz.strings_IndexByte (bs x) c w).mono ?_;rintro e w' ⟨rfl,rfl⟩;refine ⟨?_,rfl⟩;rw[hc,Int.toNat_natCast,show b.toNat.toUInt8=b from by simp,zfL,hx]
  have HB:=Hd hb1;rw[<- hc] at hbig hbl;clear hbe hb e3 hc hb1;by_cases hlt:rs.length - 1<cs.length
  ·have i1:=zd3 (P:=Tryz.prog) (t:=9) Tryz.underlying9 cs (rs.length - 1) hlt (rs.length - 1) (by omega);have hsm:at8 cs (rs.length - 1)<128:=(by obtain ⟨b',hb',e⟩:=zsM cs _ hlt;rw[e];exact hcs b' hb');have hsm0:=zgA cs (rs.length - 1);generalize at8 cs (rs.length - 1)=c' at *;have sl:=zfM (P:=Tryz.prog) (t:=9) Tryz.underlying9 cs (rs.length) (by omega) (rs.length - 1+1) (by omega) _ rfl;have sl2:=zfM (P:=Tryz.prog) (t:=9) Tryz.underlying9 cs (rs.length) (by omega) (rs.length) rfl _ rfl;have HN:=Hd (HB.out _ (hnot rs.length));clear hnot HB;go_enter Tryz.func158,Tryz.ntmps158;go_wp2_with (first|(go_at_call 206;refine (Tryz.utf8_ValidRune _ _).mono ?_;rintro e w' ⟨rfl,rfl⟩))
   go_step3
   go_wp2_with (first|(go_at_call 206;refine (Tryz.utf8_ValidRune _ _).mono ?_;rintro e w' ⟨rfl,rfl⟩));refine wp_loop_rounds 1 ?_;rw[rounds_succ];go_wp2_with fail
   go_step3
   go_wp2_with fail
   go_quiet (fail)
   obtain ⟨w2,hw2⟩:∃ x,x=w'.drewN nq:=⟨_,rfl⟩;rw[<- hw2];have HW2:=Hd hw2;clear hw2;go_wp2_with fail;have hsum:IntKind.i64.wrap (↑(List.length rs) - 1+1) = ↑(List.length rs):=IntWalk.i64_in _ (by omega) |>.trans (by omega);have hsum2:(0:Int) <= ↑(List.length rs):=(by omega)
   go_quiet ((go_at_call 131;exact Calls.quiet_of_same (HN.out _)))
   go_wp2_with fail;rw[Exit.noGoto_ret];go_wp2_with fail;rw[Exit.noGoto_ret];go_wp2_with fail;go_ret;exact ⟨rfl,by rw[HW2.out];exact zu1⟩
  ·go_enter Tryz.func158,Tryz.ntmps158;go_wp2_with (go_at_call 206;refine (Tryz.utf8_ValidRune _ _).mono ?_;rintro e w' ⟨rfl,rfl⟩)
   go_step3
   go_wp2_with fail;refine wp_loop_rounds 1 ?_;rw[rounds_succ];go_wp2_with fail
   try rw[Exit.noGoto_ret]
   try rw[Exit.noGoto_ret]
   go_ret;exact ⟨rfl,0,rfl⟩
theorem zh0 (l:Bs) (i:Nat) (h:at8 l i<128):dec (bs l) i=(at8 l i,1):=by unfold dec;rw[zbG,if_pos h]
theorem zxK {P:Program} (w:World) (l:Bs) (pos:Nat) (ty:TypeId) (h:pos<l.length) (c n:Int) (hd:dec (bs l) pos=(c,n)) :
  (Instr.next (.pointer (some ⟨w.heap.size,0,none⟩)) true ty).run P (w.iter (bs l) pos)=.ok (.tuple #[.bool true,.int .i64 pos,.int .i32 c]) (w.iter (bs l) (pos+n.toNat)):=by
 rw[run_next_any w (bs l) pos ty h];rw[zCP] at hd;obtain ⟨h1,h2⟩:=Prod.mk.injEq _ _ _ _ ▸ hd;rw[h1,<- h2,Int.toNat_natCast]
theorem zp9 (cs:Bs) (w:World) (hcs:Ascii cs) (hl:cs.length<=1000) :
  Calls Tryz.prog 158 #[.string (bs cs),.int .i32 65533] w fun e w'=>e=.returned (.int .i64 (-1))/\Kept w w':=by
 go_enter Tryz.func158,Tryz.ntmps158;go_wp2_with fail;go_loopw [5] (fun u wr=>∃ pos:Nat,pos<=cs.length/\wr=w.iter (bs cs) pos) (fun u wr=>cs.length - wr.iterPos w.heap.size)
 case atStart=>exact ⟨0,Nat.zero_le _,rfl⟩
 case round =>
  obtain ⟨pos,hp,rfl⟩:=hrel;by_cases hlt:pos<cs.length
  ·have hsm:at8 cs pos<128:=(by obtain ⟨b',hb',e⟩:=zsM cs _ hlt;rw[e];exact hcs b' hb');have hsm0:=zgA cs pos;have nx:=fun ty=>zxK (P:=Tryz.prog) w cs pos ty hlt _ _ (zh0 cs pos hsm);generalize at8 cs pos=c at *;have hne:(c == 65533)=false:=(by rw[beq_eq_false_iff_ne];omega);go_wp2_with fail;go_roundw
   case rel=>exact ⟨pos+1,by omega,rfl⟩
   case measure=>simp;omega
  ·have nx:=fun ty=>run_next_end (P:=Tryz.prog) w (bs cs) pos ty hlt;go_wp2_with fail;go_ret;exact ⟨rfl,zaA _ _⟩
theorem zh1 (s:ByteArray) (i:Nat) (h:128<=zaC s i):128<=(dec s i).1/\∀ j,j<(dec s i).2.toNat->128<=zaC s (i+j):=by
 have m1:∀ k l h,0<=zaI s k l h->l<=zaC s k:=fun k l h q=>(zgP q).2.1;have hl3:128<=zfO (zaC s i):=(by unfold zfO;split <;> omega);have hl4:128<=zfI (zaC s i):=(by unfold zfI;split <;> omega);unfold dec;rw[if_neg (by omega)]
 split
 ·split
  ·rename_i q;refine ⟨by simp only;omega,fun j hj=>?_⟩;have:=m1 _ _ _ q;rcases (show j=0\/j=1 by simp only at hj;omega) with rfl|rfl
   ·exact h
   ·exact this
  ·exact ⟨by simp only;omega,fun j hj=>by
     simp only at hj;obtain rfl:j=0:=(by omega);exact h⟩
 split
 ·unfold zhI
  split
  ·exact ⟨by simp only;omega,fun j hj=>by
     simp only at hj;obtain rfl:j=0:=(by omega);exact h⟩
  ·rename_i q;have a1:=m1 (i+1) (zfO (zaC s i)) (zc3 (zaC s i)) (by omega);have a2:=m1 (i+2) 128 191 (by omega);have a3:=zgP (s:=s) (i:=i+1) (l:=zfO (zaC s i)) (h:=zc3 (zaC s i)) (by omega);refine ⟨?_,fun j hj=>?_⟩
   ·simp only;by_cases e:zaC s i=224
    ·have:zfO (zaC s i)=160:=(by unfold zfO;rw[if_pos e]);omega
    ·omega
   ·rcases (show j=0\/j=1\/j=2 by simp only at hj;omega) with rfl|rfl|rfl
    ·exact h
    ·omega
    ·exact a2
 split
 ·unfold zsC
  split
  ·exact ⟨by simp only;omega,fun j hj=>by
     simp only at hj;obtain rfl:j=0:=(by omega);exact h⟩
  ·rename_i q;have a1:=m1 (i+1) (zfI (zaC s i)) (zc4 (zaC s i)) (by omega);have a2:=m1 (i+2) 128 191 (by omega);have a4:=m1 (i+3) 128 191 (by omega);have a3:=zgP (s:=s) (i:=i+1) (l:=zfI (zaC s i)) (h:=zc4 (zaC s i)) (by omega);refine ⟨?_,fun j hj=>?_⟩
   ·simp only;by_cases e:zaC s i=240
    ·have:zfI (zaC s i)=144:=(by unfold zfI;rw[if_pos e]);omega
    ·omega
   ·rcases (show j=0\/j=1\/j=2\/j=3 by simp only at hj;omega) with rfl|rfl|rfl|rfl
    ·exact h
    ·omega
    ·exact a2
    ·exact a4
 ·exact ⟨by simp only;omega,fun j hj=>by
    simp only at hj;obtain rfl:j=0:=(by omega);exact h⟩
theorem ztL (f:UInt8->Bool) (hf:∀ b:UInt8,128<=(b.toNat:Int)->f b=false) (l:Bs):∀ (n i:Nat),(∀ j,j<n->128<=at8 l (i+j))->(l.drop i).any f=(l.drop (i+n)).any f
 | 0,i,_=>rfl
 | n+1,i,h=>by
  rw[show i+(n+1)=(i+1)+n from by omega,<- ztL f hf l n (i+1) (fun j hj=>by have:=h (j+1) (by omega);rw[show i+1+j=i+(j+1) from by omega];exact this)];rcases Nat.lt_or_ge i l.length with q|q
  ·rw[List.drop_eq_getElem_cons q,List.any_cons,hf,Bool.false_or];rw[<- zbI l i q];exact h 0 (by omega)
  ·rw[List.drop_of_length_le q,List.drop_of_length_le (by omega)]
theorem zA1 (f:UInt8->Bool) (l:Bs) (i:Nat) (h:i<l.length):(l.drop i).any f=(f l[i] || (l.drop (i+1)).any f):=by
 rw[List.drop_eq_getElem_cons h,List.any_cons]
def zbN (cs:Bs) (b:UInt8):Bool:=cs.contains b
def AnyPost (l cs:Bs) (w:World) (e:Ending) (w':World):Prop:=∃ r:Int,e=.returned (.int .i64 r)/\(decide (0<=r)=l.any (zbN cs))/\Kept w w'
theorem zu4 (l cs:Bs) (w:World) (hcs:Ascii cs) (hl:cs.length<=1000) (h2:2<=cs.length) (h8:l.length<=8) :
  Calls Tryz.prog 118 #[.string (bs l),.string (bs cs)] w (AnyPost l cs w):=by
 have hne1:((cs.length:Int) == 1)=false:=(by rw[beq_eq_false_iff_ne];omega);have hce:cs.isEmpty=false:=(by cases cs <;> simp at h2 ⊢);have hce':¬ cs=[]:=(by cases cs <;> simp at h2 ⊢);have hf:∀ b:UInt8,128<=(b.toNat:Int)->zbN cs b=false:=fun b hb=>by
  unfold zbN;rw[Bool.eq_false_iff];intro q;have:=hcs b (by simpa using q);omega
 have HF:=Hd hf;clear hf;go_enter Tryz.func118,Tryz.ntmps118;go_wp2_with (go_at_call 159;refine (Tryz.strings_shouldUseASCIISet _ _).mono ?_;rintro e w' ⟨rfl,hw⟩;obtain rfl:=hw.symm);go_loopw [9] (fun u wr=>∃ pos:Nat,pos<=l.length/\wr.heap[w.heap.size]? = some (.stringIter (bs l) pos)/\Kept w wr/\Hid (l.any (zbN cs)=(l.drop pos).any (zbN cs))) (fun u wr=>l.length - wr.iterPos w.heap.size)
 case atStart=>exact ⟨0,Nat.zero_le _,World.iter_heap _ _ _,zaA _ _,rfl⟩
 case round =>
  obtain ⟨pos,hp,hit,hk,HA⟩:=hrel;have hip:wr.iterPos w.heap.size=pos:=(by simp [World.iterPos,hit]);have hsz:w.heap.size<wr.heap.size:=by
   rcases Nat.lt_or_ge w.heap.size wr.heap.size with q|q
   ·exact q
   ·rw[Array.getElem?_eq_none q] at hit;cases hit
  by_cases hlt:pos<l.length
  ·have nx:=fun ty=>zc0 (P:=Tryz.prog) wr w.heap.size (bs l) pos ty hit hlt;have hb:=za6 (bs l) pos hlt;have h0:=zgA l pos;have hit2:∀ p,(wr.iterAt w.heap.size (bs l) p).heap[w.heap.size]? = some (.stringIter (bs l) p):=fun p=>Lib.iterAt_heap wr w.heap.size (bs l) pos p hit;have hk2:∀ p,Kept w (wr.iterAt w.heap.size (bs l) p):=fun p=>Lib.below_iterAt hk (Nat.le_refl _) (bs l) p;have HIT:=Hd hit2;have HK2:=Hd hk2;have HIP:=Hd hip;clear hit2 hk2 hip;by_cases ha:at8 l pos<128
   ·have HN:=Hd (zA1 (zbN cs) l pos hlt);rw[zh0 l pos ha] at nx;simp only at nx;have HB:Hid (at8 l pos=(l[pos].toNat:Int)):=zbI l pos hlt;generalize l[pos]=x at *;generalize at8 l pos=c at *;have HX:Hid (∀ w,Calls Tryz.prog 158 #[.string (bs cs),.int .i32 c] w fun e w'=>e=.returned (.int .i64 (Lib.indexByte cs x))/\w=w'):=by
     intro w;refine (Tryz.strings_IndexRune_ascii (bs cs) c w h0 ha).mono ?_;rintro e w' ⟨rfl,rfl⟩;refine ⟨?_,rfl⟩;rw[HB.out,Int.toNat_natCast,show x.toNat.toUInt8=x from by simp,zfL]
    have HC:Hid (decide (0<=Lib.indexByte cs x)=zbN cs x):=za9 x cs;have hge:=Lib.indexByte_ge cs x;generalize Lib.indexByte cs x=r at *;by_cases hr:0<=r
    ·go_wp2_with fail;refine (HX.out _).mono ?_;rintro e w1 ⟨rfl,rfl⟩;go_wp2_with fail;go_ret;exact ⟨_,rfl,by rw[HA.out,HN.out,<- HC.out,decide_eq_true hr];simp,HK2.out _⟩
    ·go_wp2_with fail;refine (HX.out _).mono ?_;rintro e w1 ⟨rfl,rfl⟩;go_wp2_with fail;go_roundw
     case rel=>exact ⟨pos+1,by omega,HIT.out _,HK2.out _,by show _=_;rw[HA.out,HN.out,<- HC.out,decide_eq_false (by omega)];simp⟩
     case measure=>rw[HIP.out];have:=HIT.out (pos+1);simp [World.iterPos,this];omega
   ·have HS:Hid ((l.drop pos).any (zbN cs)=(l.drop (pos+(dec (bs l) pos).2.toNat)).any (zbN cs)):=ztL (zbN cs) HF.out l _ pos (zh1 (bs l) pos (by rw[zbG];omega)).2;have hc:=(zh1 (bs l) pos (by rw[zbG];omega)).1;obtain ⟨c,n,hd⟩:∃ c n,dec (bs l) pos=(c,n):=⟨(dec (bs l) pos).1,(dec (bs l) pos).2,rfl⟩;rw[hd] at nx hb HS hc;simp only at nx hb HS hc;obtain ⟨b1,b2,b3,b4,b5⟩:=hb;simp only[zeE] at b5;have HX:Hid (∀ w,Calls Tryz.prog 158 #[.string (bs cs),.int .i32 c] w fun e w'=>e=.returned (.int .i64 (-1))/\Kept w w'):=by
     intro w;by_cases q:c=65533
     ·rw[q];exact zp9 cs w hcs hl
     ·refine (zp8 cs c w hc b2 (by rw[beq_eq_false_iff_ne];exact q) hcs hl).mono ?_;rintro e w' ⟨rfl,n,rfl⟩;exact ⟨rfl,zaB _ _⟩
    clear hd;go_wp2_with fail;refine (HX.out _).mono ?_;rintro e w1 ⟨rfl,hk1⟩;have HK1:=Hd hk1;clear hk1;go_wp2_with fail;go_roundw
    case rel =>
     refine ⟨pos+n.toNat,by omega,?_,(HK2.out _).trans HK1.out,by show _=_;rw[HA.out,HS.out]⟩;rw[HK1.out.block _ (by rw[Lib.iterAt_size];exact hsz)];exact HIT.out _
    case measure =>
     have:=HIT.out (pos+n.toNat);rw[<- HK1.out.block _ (by rw[Lib.iterAt_size];exact hsz)] at this;rw[HIP.out];simp [World.iterPos,this];omega
  ·have nx:=fun ty=>zbR (P:=Tryz.prog) wr w.heap.size (bs l) pos ty hit hlt;go_wp2_with fail;go_ret;exact ⟨_,rfl,by rw[HA.out,List.drop_of_length_le (by omega)];rfl,hk⟩
theorem ztM (w:World):(zeroValue 214).run Tryz.prog w=.ok (.agg (Array.replicate 256 (.bool false))) w:=by kernel_rfl
theorem zA2 (l cs:Bs) (w:World) (hcs:Ascii cs) (hl:cs.length<=1000) (h2:2<=cs.length) (hs:l.length<=1000000000) :
  Calls Tryz.prog 118 #[.string (bs l),.string (bs cs)] w (AnyPost l cs w):=by
 by_cases h8:l.length<=8
 ·exact zu4 l cs w hcs hl h2 h8
 ·refine (Tryz.strings_IndexAny_long ztM (bs l) (bs cs) w (by simpa using h2) (by simp;omega) (by simp;omega) (by simp;omega) (fun j b hb=>?_)).mono ?_
  ·have:=hcs b (List.mem_of_getElem? (by simpa using hb));omega
  ·rintro e w' ⟨rfl,rfl⟩;exact ⟨_,rfl,zg9 cs l,(zaA _ _).trans (zaA _ _)⟩
theorem zA3 (l cs:Bs) (w:World) (hcs:Ascii cs) (hl:cs.length<=1000) (h2:2<=cs.length) (hs:l.length<=1000000000) :
  Calls Tryz.prog 260 #[.string (bs l),.string (bs cs)] w fun e w'=>e=.returned (.bool (l.any (zbN cs)))/\Kept w w':=by
 go_enter Tryz.func260,Tryz.ntmps260;go_wp2_with fail;refine (zA2 l cs _ hcs hl h2 hs).mono ?_;rintro e w1 ⟨r,rfl,hr,hk⟩;have HR:=Hd hr;clear hr;go_wp2_with fail
 all_goals go_ret
 all_goals exact ⟨zaO (by rw[<- HR.out]),hk⟩
theorem zA4 {α:Type} (f:α->Bool) (l:List α) (k:Nat) (p:α) (h:l[k]? = some p):(l.drop k).all f=(f p && (l.drop (k+1)).all f):=by
 obtain ⟨hk,rfl⟩:=List.getElem?_eq_some_iff.1 h;rw[List.drop_eq_getElem_cons hk,List.all_cons]
theorem zxL {α:Type} (f:α->Bool) (l:List α) (b:Bool) (h:b=l.all f):Hid (b=(l.drop 0).all f):=by unfold Hid;simpa using h
theorem zu5 (s:ByteArray) (w:World) (hs:s.size<=1000000000) :
  Calls Tryz.prog 113 #[.string s] w fun e w'=>e=.returned (.bool (zbQ s))/\Kept w w':=by
 have hlen:(zf0 s).length<=s.size:=(by have:=zsL s 0;unfold zf0;omega);have HV:=zoB s;go_enter Tryz.func113,Tryz.ntmps113;go_wp2_with fail;refine (zu3 s _ hs).mono ?_;rintro e w1 ⟨v,rfl,hown,hk⟩;generalize zf0 s=pts at *;obtain ⟨a,c,rfl,h1,h2,h3⟩:=za1 hown;have hat:=zu2 pts;have H3:=Hd h3;have HAT:=Hd hat;have HK:=Hd hk;have HVS:=zxL _ _ _ HV;clear h3 hat hk hown HV;go_wp2_with fail;go_loopw [8] (fun i wr=>∃ (k:Nat),k<=pts.length/\i=.int .i64 k/\Hid (zbQ s=(pts.drop k).all zcI)/\Kept w1 wr) (fun i _=>pts.length - (intOf i).toNat)
 case atStart=>exact ⟨0,Nat.zero_le _,rfl,HVS,Kept.refl _⟩
 case round =>
  obtain ⟨k,hkl,rfl,HP,hkr⟩:=hrel;by_cases hlt:k<pts.length
  ·obtain ⟨g,rfl,_,hg,hcell⟩:=H3.out (by omega);obtain ⟨p,hp⟩:∃ p,pts[k]? = some p:=⟨_,List.getElem?_eq_getElem hlt⟩;have HA:Hid ((pts.drop k).all zcI=(zcI p && (pts.drop (k+1)).all zcI)):=zA4 zcI pts k p hp;obtain ⟨c0,c1⟩:=HAT.out k p hp;have c0':wr.cell? ⟨g,k * 2,none⟩=some (.int .i64 p.1):=(hkr.cell (p:=⟨g,k * 2,none⟩) hg).trans (hcell _ _ (by rw[Nat.mul_comm];exact c0));have c1':wr.cell? ⟨g,k * 2+1,none⟩=some (.int .i64 p.2):=(hkr.cell (p:=⟨g,k * 2+1,none⟩) hg).trans (hcell _ _ (by rw[Nat.mul_comm];exact c1));have HR:=Hd hkr;clear hkr hcell hp c0 c1;obtain ⟨c,n⟩:=p;simp only at c0' c1';have hgr:g<wr.heap.size:=(by have:=HR.out.size;omega);have tt:(zeH c=false/\zcI (c,n)=false)\/(zeH c=true/\(c == 65533)=false/\zcI (c,n)=true)\/(zeH c=true/\(c == 65533)=true/\(n == 1)=false/\zcI (c,n)=true)\/(zeH c=true/\(c == 65533)=true/\(n == 1)=true/\zcI (c,n)=false):=by
    unfold zcI;cases zeH c <;> cases (c == 65533) <;> cases (n == 1) <;> simp
   rcases tt with ⟨t1,t4⟩|⟨t1,t2,t4⟩|⟨t1,t2,t3,t4⟩|⟨t1,t2,t3,t4⟩
   all_goals
    have HG:=Hd t4;clear t4;go_wp2_with (go_at_call 154;refine (zu0 _ _).mono ?_;rintro e w' ⟨rfl,rfl⟩)
    first
    | (
       go_ret;exact ⟨zaO (by rw[HP.out,HA.out,HG.out];rfl),(HK.out.trans HR.out).trans (zaA _ _)⟩)
    | (
       go_roundw
       case rel=>exact ⟨k+1,by omega,by go_num,by show _=_;rw[HP.out,HA.out,HG.out];simp,HR.out.trans (zaA _ _)⟩
       case measure=>simp [intOf];omega)
  ·have HR:=Hd hkr;clear hkr;go_wp2_with fail;go_ret;exact ⟨zaO (by rw[HP.out,List.drop_of_length_le (by omega)];rfl),HK.out.trans HR.out⟩
def zCQ:Bs:=[44,59,123,125]
def zFz:Bs:=[59,123,125]
def zdC (l:Bs):Bool:=zhJ l && !(l.any (zbN zCQ)) && (l == zk2 l)
theorem zu6 (l:Bs) (w:World):Calls Tryz.prog 134 #[.string (bs l),.string (bs [10])] w fun e w'=>e=.returned (.bool (l.contains 10))/\w=w':=by
 refine (Tryz.strings_Contains_one (bs l) 10 w).mono ?_;rintro e w' ⟨rfl,rfl⟩;exact ⟨zaO (za9 10 l),rfl⟩
theorem zA5 (l:Bs) (w:World) (hs:l.length<=1000000000) :
  Calls Tryz.prog 259 #[.string (bs l)] w fun e w'=>e=.returned (.bool (zhJ l))/\∃ n,w'=w.drewN n:=by
 have HV:=Hd (fun w=>zlB (bs l) w hs);have HL:Hid (zhJ l=(zbQ (bs l) && !(l.contains 10))):=rfl;have HC:=Hd (fun w=>zu6 l w);generalize zbQ (bs l)=v at *;generalize l.contains 10=c at *;cases v
 ·go_enter Tryz.func259,Tryz.ntmps259;go_wp2_with fail;refine (HV.out _).mono ?_;rintro e w1 ⟨rfl,n,rfl⟩;go_wp2_with fail;go_ret;exact ⟨zaO (by rw[HL.out];rfl),n,rfl⟩
 ·go_enter Tryz.func259,Tryz.ntmps259;go_wp2_with fail;refine (HV.out _).mono ?_;rintro e w1 ⟨rfl,n,rfl⟩;go_wp2_with fail;refine (HC.out _).mono ?_;rintro e w1 ⟨rfl,rfl⟩;cases c
  all_goals
   go_wp2_with fail;go_ret;exact ⟨zaO (by rw[HL.out];rfl),n,rfl⟩
theorem zEq:Ascii zCQ:=by intro b hb;unfold zCQ at hb;simp at hb;rcases hb with rfl|rfl|rfl|rfl <;> decide
theorem zcF (l:Bs) (w:World) (hg:Gnd w) (hs:l.length<=100000000) :
  Calls Tryz.prog 218 #[.string (bs l)] w fun e w'=>e=.returned (.bool (zdC l))/\Kept w w':=by
 have HV:=Hd (fun w=>zA5 l w (by omega));have HC:=Hd (fun w=>zA3 l zCQ w zEq (by decide) (by decide) (by omega));have HK:=Hd (fun w hg=>zxC l w hg hs);have HL:Hid (zdC l=(zhJ l && !(l.any (zbN zCQ)) && (l == zk2 l))):=rfl;have HS:Hid (zCQ=[44,59,123,125]):=rfl;generalize zhJ l=v at *;generalize l.any (zbN zCQ)=c at *;generalize zk2 l=m at *;cases v
 ·go_enter Tryz.func218,Tryz.ntmps218;go_wp2_with fail;refine (HV.out _).mono ?_;rintro e w1 ⟨rfl,n,rfl⟩;go_wp2_with fail;go_ret;exact ⟨zaO (by rw[HL.out];rfl),zaB _ _⟩
 ·go_enter Tryz.func218,Tryz.ntmps218;go_wp2_with fail;refine (HV.out _).mono ?_;rintro e w1 ⟨rfl,n,rfl⟩;have hg1:Gnd (w.drewN n):=hg;go_wp2_with fail;rw[<- HS.out];refine (HC.out _).mono ?_;rintro e w1 ⟨rfl,hk1⟩;have hg2:=hg1.kept hk1;have HK1:=Hd ((zaB w n).trans hk1);have HG2:=Hd hg2;clear hk1 hg2 hg1;cases c
  ·go_wp2_with fail;refine (HK.out _ HG2.out).mono ?_;rintro e w2 ⟨rfl,hk2⟩;have HK2:=Hd (HK1.out.trans hk2);clear hk2;go_wp2_with fail
   all_goals go_ret
   all_goals exact ⟨zaO (by rw[HL.out];simp [*]),HK2.out⟩
  ·go_wp2_with fail;go_ret;exact ⟨zaO (by rw[HL.out];rfl),HK1.out⟩
end Go.Proofs.YtmcoomlkbgiboaaGreatDoor
