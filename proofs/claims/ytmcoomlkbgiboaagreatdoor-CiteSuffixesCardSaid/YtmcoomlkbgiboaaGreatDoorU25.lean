/- person.Initials. Conditions: the length of the given name. -/
import Derived.Test.YtmcoomlkbgiboaaGreatDoorU24
import Derived.Test.YtmcoomlkbgiboaaGreatDoorU06
import Derived.Test.YtmcoomlkbgiboaaGreatDoorU04
import Derived.Test.YtmcoomlkbgiboaaGreatDoorU02
import Derived.Test.YtmcoomlkbgiboaaGreatDoorU09
import Derived.Laws.Cover4
set_option linter.all false
set_option maxRecDepth 100000
set_option maxHeartbeats 6400000
namespace Go.Proofs.YtmcoomlkbgiboaaGreatDoor
open Go.RowKit
def zdE (ns:List Int):Bs:=ns.flatMap zoC
theorem zlV (ns:List Int) (c:Int):zdE (ns ++ [c])=zdE ns ++ zoC c:=by simp [zdE]
theorem znS (ns:List Int) (c d:Int):zdE (ns ++ [c,d])=zdE ns ++ zoC c ++ zoC d:=by simp [zdE]
theorem zlW:∀ (ns:List Int) (x:Bs),ns.foldl (fun r n=>r ++ Utf8.encode n) (bs x)=bs (x ++ zdE ns)
 | [],x=>by simp [zdE]
 | n :: ns,x=>by
  rw[List.foldl_cons,zp7,zk3,zlW ns];simp [zdE]
theorem ziO (ns:List Int):runesBytes ns=bs (zdE ns):=by
 unfold runesBytes;rw[zAR,zlW];simp
def zbB (ns:List Int):List Value:=ns.map (Value.int .i32)
theorem zzD (w:World) (base:Nat) (v:Value) (ns:List Int) (h:w.ownsRow base 21 1 v ns.length (zbB ns)) :
  (convert 151 9 v).run Tryz.prog w=.ok (.string (bs (zdE ns))) w:=by
 rcases h.2 with ⟨rfl,hn⟩|⟨g,cap,cur,rfl,_⟩
 ·obtain rfl:ns=[]:=List.length_eq_zero_iff.1 hn;rw[run_convert_runes_string w 151 9 21 none 0 0 Tryz.underlying151 Tryz.underlying21 Tryz.underlying9];simp [Conv.runesToString,zdE,Sem.run_pure]
 ·rw[run_convert_runes_string w 151 9 21 _ _ _ Tryz.underlying151 Tryz.underlying21 Tryz.underlying9];have hc:=h.cells (g:=g) rfl;have hl:=run_loadCells_list (P:=Tryz.prog) (w:=w) ⟨g,0,none⟩ (zbB ns) hc;have e:(zbB ns).length=ns.length:=(by simp [zbB]);rw[e] at hl;rw[run_runesToString w ⟨g,0,none⟩ ns.length cap ns hl,ziO]
theorem zBE (g:Bs) (pos:Nat) (h:pos<g.length) (c n:Int) (hd:dec (bs g) pos=(c,n)) (bg iw sm:Bool) :
  (c=32/\n=1/\ini (g.drop pos) bg iw sm=ini (g.drop (pos+1)) true false sm) \/
  (c=45/\n=1/\ini (g.drop pos) bg iw sm=ini (g.drop (pos+1)) true iw sm) \/
  (c≠32/\c≠45/\ini (g.drop pos) bg iw sm=if bg then zy9 iw sm ++ (zoC c ++ [46]) ++ ini (g.drop (pos+n.toNat)) false true true else ini (g.drop (pos+n.toNat)) false iw sm):=by
 have hp:zdR (g.drop pos)=zoC c ++ [46]:=(by unfold zdR;rw[zqS,hd]);have hcons:g.drop pos=g[pos] :: g.drop (pos+1):=List.drop_eq_getElem_cons h;have ha:=zbI g pos h;by_cases hlo:at8 g pos<128
 ·have hdd:=zh0 g pos hlo;rw[hd] at hdd;obtain ⟨rfl,rfl⟩:=Prod.mk.injEq _ _ _ _ ▸ hdd;rw[hcons] at hp ⊢;rw[zdM];have k32:=zgB g[pos] 32 (by decide);have k45:=zgB g[pos] 45 (by decide);rw[<- ha] at k32 k45;by_cases q:g[pos]=32
  ·left;exact ⟨k32.2 q,rfl,by rw[if_pos q]⟩
  by_cases q2:g[pos]=45
  ·right;left;exact ⟨k45.2 q2,rfl,by rw[if_neg q,if_pos q2]⟩
  ·right;right;refine ⟨fun e=>q (k32.1 e),fun e=>q2 (k45.1 e),?_⟩;rw[if_neg q,if_neg q2,hp];rfl
 ·right;right;obtain ⟨hc,hbytes⟩:=zh1 (bs g) pos (by rw[zbG];omega);rw[hd] at hc hbytes;simp only at hc hbytes;have hb:=za6 (bs g) pos h;rw[hd] at hb;simp only[zeE] at hb;refine ⟨by omega,by omega,?_⟩;have hq:g[pos]≠32:=fun e=>by
     rw[e] at ha;have:((32:UInt8).toNat:Int)=32:=(by decide);omega
  have hq2:g[pos]≠45:=fun e=>by
     rw[e] at ha;have:((45:UInt8).toNat:Int)=45:=(by decide);omega
  have hsplit:g.drop (pos+1)=(g.drop (pos+1)).take (n.toNat - 1) ++ g.drop (pos+n.toNat):=by
   conv=>lhs;rw[<- List.take_append_drop (n.toNat - 1) (g.drop (pos+1))]
   rw[List.drop_drop,show pos+1+(n.toNat - 1)=pos+n.toNat from by omega]
  have hnot:∀ x∈(g.drop (pos+1)).take (n.toNat - 1),128<=(x.toNat:Int):=by
   intro x hx;obtain ⟨j,hj,rfl⟩:=List.getElem_of_mem hx;simp only[List.length_take,List.length_drop] at hj;have hbj:=hbytes (1+j) (by omega);rw[zbG,<- Nat.add_assoc,zbI g (pos+1+j) (by omega)] at hbj;simp only[List.getElem_take,List.getElem_drop];exact hbj
  have hsk:∀ iw sm,ini (g.drop (pos+1)) false iw sm=ini (g.drop (pos+n.toNat)) false iw sm:=by
   intro iw sm;rw[hsplit];exact zt7 _ _ iw sm (fun q=>by have:=hnot _ q;revert this;decide) (fun q=>by have:=hnot _ q;revert this;decide)
  rw[hcons] at hp ⊢;rw[zdM,if_neg hq,if_neg hq2,hp,hsk,hsk];rfl
theorem Tryz.infoRune:(Tryz.prog.info? 21).map (fun i=>(i.zero,i.size,i.bytes))=some (some (.int .i32 0),1,4):=by kernel_rfl
theorem zfD {w w':World} {base k:Nat} {e:TypeId} {size:Nat} {v:Value} {n:Nat} {xs:List Value} {o:Obj} (h:w.ownsRow base e size v n xs) (hg:(w.alloc o).grownBy w' v.ownBlock) (hk:k<base) (hb:base<=w.heap.size) :
  w'.heap[k]? = w.heap[k]? /\ base<=w'.heap.size/\Below base w w':=by
 have hB:Below base w w':=((Below.refl base w).alloc hb o).trans (zaG (h.alloc o) hg (by simp;omega));exact ⟨hB.block k hk,by have:=hB.size;omega,hB⟩
theorem zvV {w:World} {base:Nat} {e:TypeId} {size:Nat} {v:Value} {n:Nat} {xs:List Value} (h:w.ownsRow base e size v n xs) (k:Nat) (hk:k<base) (s:ByteArray) (pos:Nat):(w.iterAt k s pos).ownsRow base e size v n xs:=by
 obtain ⟨h1,h2⟩:=h;refine ⟨h1,?_⟩;rcases h2 with h2|⟨g,cap,cur,hv,hg,hh,r⟩
 ·exact Or.inl h2
 ·exact Or.inr ⟨g,cap,cur,hv,hg,by rw[Lib.iterAt_other _ _ _ _ _ (by omega)];exact hh,r⟩
theorem zq7 (f g p s:Bs) (w:World) (hs:g.length<=10000000) :
  Calls Tryz.prog 135 #[ziZ f g p s] w fun e w'=>e=.returned (.string (bs (zc8 g)))/\Kept w w':=by
 obtain ⟨i0,hi,hz0,hz1,hz2⟩:=info_parts Tryz.infoRune;have HI:Hid (zc8 g=zdE [] ++ ini (g.drop 0) true false false):=(by show _=_;rw[zj3];simp [zdE]);go_enter Tryz.func135,Tryz.ntmps135;go_wp2_with fail
 try simp only[zcO]
 go_loopw [3,4,5] (fun v bg iw wr=>∃ (pos:Nat) (ns:List Int) (b i:Bool),pos<=g.length/\ns.length<=3 * pos/\bg=.bool b/\iw=.bool i/\wr.heap[w.heap.size+1]? = some (.stringIter (bs g) pos)/\wr.ownsRow (w.heap.size+2) 21 1 v ns.length (zbB ns)/\w.heap.size+2<=wr.heap.size/\Kept w wr/\Hid (zc8 g=zdE ns ++ ini (g.drop pos) b i (!ns.isEmpty))) (fun _ _ _ wr=>g.length - wr.iterPos (w.heap.size+1))
 case atStart=>exact ⟨0,[],true,false,Nat.zero_le _,Nat.le_refl _,rfl,rfl,by have:=World.iter_heap (w.alloc (.cells #[.string (bs f),.string (bs g),.string (bs p),.string (bs s)] 77)) (bs g) 0;simpa using this,World.ownsRow_nil _ _ _ _,by simp [World.iter],(zaA _ _).trans (zaA _ _),HI⟩
 case round =>
  obtain ⟨pos,ns,b,i,hp,hnl,rfl,rfl,hit,hown,hsz,hk,HA⟩:=hrel;have hip:wr.iterPos (w.heap.size+1)=pos:=(by simp [World.iterPos,hit]);by_cases hlt:pos<g.length
  ·have nx:=fun ty=>zc0 (P:=Tryz.prog) wr (w.heap.size+1) (bs g) pos ty hit hlt;obtain ⟨c,n,hd⟩:∃ c n,dec (bs g) pos=(c,n):=⟨(dec (bs g) pos).1,(dec (bs g) pos).2,rfl⟩;have hb:=za6 (bs g) pos hlt;have hst:=zBE g pos hlt c n hd b i (!ns.isEmpty);rw[hd] at nx hb;simp only[zeE] at nx hb;obtain ⟨b1,b2,b3,b4,b5⟩:=hb;obtain ⟨n,rfl⟩:∃ n':Nat,n=n':=⟨n.toNat,by omega⟩;simp only[Int.toNat_natCast] at nx hst;have HIT:Hid ((wr.iterAt (w.heap.size+1) (bs g) (pos+n)).heap[w.heap.size+1]? = some (.stringIter (bs g) (pos+n))):=Lib.iterAt_heap wr (w.heap.size+1) (bs g) pos (pos+n) hit;have HK2:Hid (Kept w (wr.iterAt (w.heap.size+1) (bs g) (pos+n))):=Lib.below_iterAt hk (by omega) (bs g) _;have HO2:=Hd (zvV hown (w.heap.size+1) (by omega) (bs g) (pos+n));have hsz2:w.heap.size+2<=(wr.iterAt (w.heap.size+1) (bs g) (pos+n)).heap.size:=(by rw[Lib.iterAt_size];exact hsz);have HIP:=Hd hip;clear hip hk hown hd hit;generalize wr.iterAt (w.heap.size+1) (bs g) (pos+n)=wq at *;have HIQ:Hid (wq.iterPos (w.heap.size+1)=pos+n):=(by show _=_;have:=HIT.out;simp [World.iterPos,this]);have hpn:pos+n<=g.length:=(by omega);rcases hst with ⟨rfl,h1,hst⟩|⟨rfl,h1,hst⟩|⟨h1,h2,hst⟩
   ·have HST:=Hd hst;obtain rfl:n=1:=(by omega);clear hst h1;go_wp2_with fail;go_roundw
    case rel=>exact ⟨pos+1,ns,true,false,by omega,by omega,rfl,rfl,HIT.out,HO2.out,hsz2,HK2.out,by show _=_;rw[HA.out,HST.out]⟩
    case measure=>rw[HIP.out,HIQ.out];omega
   ·have HST:=Hd hst;obtain rfl:n=1:=(by omega);clear hst h1;go_wp2_with fail;go_roundw
    case rel=>exact ⟨pos+1,ns,true,i,by omega,by omega,rfl,rfl,HIT.out,HO2.out,hsz2,HK2.out,by show _=_;rw[HA.out,HST.out]⟩
    case measure=>rw[HIP.out,HIQ.out];omega
   ·have t1:(c == 32)=false:=(by simpa using h1);have t2:(c == 45)=false:=(by simpa using h2);have HST:=Hd hst;clear hst h1 h2;cases b
    ·go_wp2_with fail;go_roundw
     case rel=>exact ⟨pos+n,ns,false,i,by omega,by omega,rfl,rfl,HIT.out,HO2.out,hsz2,HK2.out,by show _=_;rw[HA.out,HST.out];rfl⟩
     case measure=>rw[HIP.out,HIQ.out];omega
    ·have hown:=HO2.out;clear HO2;have HNE:Hid (∀ x y z:Int,(ns ++ [x,y,z]).isEmpty=false):=(by intro x y z;cases ns <;> rfl);obtain ⟨av,cv,hv,q1,q2,_⟩:=za1 hown;subst hv;cases i
     ·by_cases hns:ns=[]
      ·subst hns;simp only[List.length_nil,zbB,List.map_nil] at hown hnl;go_wp2_with (at_builtin;refine wpList_append_own _ rfl _ _ 151 rfl (w.heap.size+2) 21 i0 (.int .i32 0) 1 4 Tryz.underlying151 hi hz0 hz1 hz2 rfl (by decide) _ _ _ rfl (hown.alloc _) ⟨wq.heap.size,0,none⟩ 2 2 [.int .i32 c,.int .i32 46] rfl rfl (by exact zaV _ #[.int .i32 c,.int .i32 46] _ _ (by simp)) (by intro u hu;simp at hu;first|(subst hu;rfl)|(rcases hu with rfl|rfl <;> rfl)) (by unfold maxLen;first|omega|(simp;omega)) (by first|omega|(simp;omega)) (by first|omega|(simp;omega)) ?_);intro v2 w3 hown2 hgrow _;obtain ⟨r1,hown2z,r3⟩:=zfD (k:=w.heap.size+1) hown hgrow (by omega) (by omega);have HIT2:=Hd (r1.trans HIT.out);have HB2:=Hd r3;have HOX:Hid (w3.ownsRow (w.heap.size+2) 21 1 v2 ([c,46]:List Int).length (zbB [c,46])):=(by show World.ownsRow _ _ _ _ _ _ _;simpa [zbB] using hown2);clear hown2 hgrow r1 r3 hown;go_wp2_with fail;go_roundw
       case rel=>exact ⟨pos+n,[c,46],false,true,by omega,by simp;omega,rfl,rfl,HIT2.out,HOX.out,hown2z,HK2.out.trans' (HB2.out.mono (by omega)),by show _=_;rw[HA.out,HST.out];simp [zy9,zdE,show zoC 46=[46] from rfl]⟩
       case measure=>rw[HIP.out,show w3.iterPos (w.heap.size+1)=pos+n from by have:=HIT2.out;simp [World.iterPos,this]];omega
      ·have hpos:0<ns.length:=List.length_pos_iff.2 hns;have hne:ns.isEmpty=false:=(by simpa using hns);go_wp2_with (at_builtin;refine wpList_append_own _ rfl _ _ 151 rfl (w.heap.size+2) 21 i0 (.int .i32 0) 1 4 Tryz.underlying151 hi hz0 hz1 hz2 rfl (by decide) _ _ _ rfl (hown.alloc _) ⟨wq.heap.size,0,none⟩ 1 1 [.int .i32 32] rfl rfl (by exact zaV _ #[.int .i32 32] _ _ (by simp)) (by intro u hu;simp at hu;first|(subst hu;rfl)|(rcases hu with rfl|rfl <;> rfl)) (by unfold maxLen;first|omega|(simp;omega)) (by first|omega|(simp;omega)) (by first|omega|(simp;omega)) ?_);intro v1 w2 hown1 hgrow _;obtain ⟨r1,hown1z,r3⟩:=zfD (k:=w.heap.size+1) hown hgrow (by omega) (by omega);rw[show zbB ns ++ [Value.int .i32 32]=zbB (ns ++ [32]) from by simp [zbB]] at hown1;have HIT1:=Hd (r1.trans HIT.out);have HB1:=Hd r3;have HO1:Hid (w2.ownsRow (w.heap.size+2) 21 1 v1 (ns ++ [32]).length (zbB (ns ++ [32]))):=(by show World.ownsRow _ _ _ _ _ _ _;simpa using hown1);clear hown1 hgrow r1 r3 hown;have hown1:=HO1.out;go_wp2_with (at_builtin;refine wpList_append_own _ rfl _ _ 151 rfl (w.heap.size+2) 21 i0 (.int .i32 0) 1 4 Tryz.underlying151 hi hz0 hz1 hz2 rfl (by decide) _ _ _ rfl (hown1.alloc _) ⟨w2.heap.size,0,none⟩ 2 2 [.int .i32 c,.int .i32 46] rfl rfl (by exact zaV _ #[.int .i32 c,.int .i32 46] _ _ (by simp)) (by intro u hu;simp at hu;first|(subst hu;rfl)|(rcases hu with rfl|rfl <;> rfl)) (by unfold maxLen;first|omega|(simp;omega)) (by first|omega|(simp;omega)) (by first|omega|(simp;omega)) ?_);intro v2 w3 hown2 hgrow _;obtain ⟨r1,hown2z,r3⟩:=zfD (k:=w.heap.size+1) hown1 hgrow (by omega) (by omega);have HIT2:=Hd (r1.trans HIT1.out);have HB2:=Hd r3;have HOX:Hid (w3.ownsRow (w.heap.size+2) 21 1 v2 ((ns ++ [32]) ++ [c,46]).length (zbB ((ns ++ [32]) ++ [c,46]))):=(by show World.ownsRow _ _ _ _ _ _ _;simpa [zbB] using hown2);clear hown2 hgrow r1 r3 hown1;go_wp2_with fail;go_roundw
       case rel=>exact ⟨pos+n,(ns ++ [32]) ++ [c,46],false,true,by omega,by simp;omega,rfl,rfl,HIT2.out,HOX.out,hown2z,HK2.out.trans' ((HB1.out.trans HB2.out).mono (by omega)),by show _=_;rw[HA.out,HST.out,znS,zlV];simp [zy9,HNE.out,hne,show zoC 32=[32] from rfl,show zoC 46=[46] from rfl]⟩
       case measure=>rw[HIP.out,show w3.iterPos (w.heap.size+1)=pos+n from by have:=HIT2.out;simp [World.iterPos,this]];omega
     ·obtain ⟨sm,hsm⟩:∃ sm,(!ns.isEmpty)=sm:=⟨_,rfl⟩;go_wp2_with (at_builtin;refine wpList_append_own _ rfl _ _ 151 rfl (w.heap.size+2) 21 i0 (.int .i32 0) 1 4 Tryz.underlying151 hi hz0 hz1 hz2 rfl (by decide) _ _ _ rfl (hown.alloc _) ⟨wq.heap.size,0,none⟩ 1 1 [.int .i32 45] rfl rfl (by exact zaV _ #[.int .i32 45] _ _ (by simp)) (by intro u hu;simp at hu;first|(subst hu;rfl)|(rcases hu with rfl|rfl <;> rfl)) (by unfold maxLen;first|omega|(simp;omega)) (by first|omega|(simp;omega)) (by first|omega|(simp;omega)) ?_);intro v1 w2 hown1 hgrow _;obtain ⟨r1,hown1z,r3⟩:=zfD (k:=w.heap.size+1) hown hgrow (by omega) (by omega);rw[show zbB ns ++ [Value.int .i32 45]=zbB (ns ++ [45]) from by simp [zbB]] at hown1;have HIT1:=Hd (r1.trans HIT.out);have HB1:=Hd r3;have HO1:Hid (w2.ownsRow (w.heap.size+2) 21 1 v1 (ns ++ [45]).length (zbB (ns ++ [45]))):=(by show World.ownsRow _ _ _ _ _ _ _;simpa using hown1);clear hown1 hgrow r1 r3 hown;have hown1:=HO1.out;go_wp2_with (at_builtin;refine wpList_append_own _ rfl _ _ 151 rfl (w.heap.size+2) 21 i0 (.int .i32 0) 1 4 Tryz.underlying151 hi hz0 hz1 hz2 rfl (by decide) _ _ _ rfl (hown1.alloc _) ⟨w2.heap.size,0,none⟩ 2 2 [.int .i32 c,.int .i32 46] rfl rfl (by exact zaV _ #[.int .i32 c,.int .i32 46] _ _ (by simp)) (by intro u hu;simp at hu;first|(subst hu;rfl)|(rcases hu with rfl|rfl <;> rfl)) (by unfold maxLen;first|omega|(simp;omega)) (by first|omega|(simp;omega)) (by first|omega|(simp;omega)) ?_);intro v2 w3 hown2 hgrow _;obtain ⟨r1,hown2z,r3⟩:=zfD (k:=w.heap.size+1) hown1 hgrow (by omega) (by omega);have HIT2:=Hd (r1.trans HIT1.out);have HB2:=Hd r3;have HOX:Hid (w3.ownsRow (w.heap.size+2) 21 1 v2 ((ns ++ [45]) ++ [c,46]).length (zbB ((ns ++ [45]) ++ [c,46]))):=(by show World.ownsRow _ _ _ _ _ _ _;simpa [zbB] using hown2);clear hown2 hgrow r1 r3 hown1;go_wp2_with fail;go_roundw
      case rel=>exact ⟨pos+n,(ns ++ [45]) ++ [c,46],false,true,by omega,by simp;omega,rfl,rfl,HIT2.out,HOX.out,hown2z,HK2.out.trans' ((HB1.out.trans HB2.out).mono (by omega)),by show _=_;rw[HA.out,HST.out,znS,zlV];simp [zy9,HNE.out,show zoC 45=[45] from rfl,show zoC 46=[46] from rfl]⟩
      case measure=>rw[HIP.out,show w3.iterPos (w.heap.size+1)=pos+n from by have:=HIT2.out;simp [World.iterPos,this]];omega
  ·have nx:=fun ty=>zbR (P:=Tryz.prog) wr (w.heap.size+1) (bs g) pos ty hit hlt;have cv:=zzD wr _ _ ns hown;have HK:=Hd hk;clear hk;go_wp2_with fail;go_ret;exact ⟨zb1 (by rw[HA.out,List.drop_of_length_le (by omega)];simp [ini]),HK.out⟩
theorem zBF (c:Int):(zoC c).length<=4:=by have:=encode_size_le c;exact this
theorem zq8 (s:ByteArray) (i:Nat):0<=(dec s i).1/\(dec s i).1<=1114111/\((dec s i).1<55296\/57343<(dec s i).1):=by
 have h0:=zaM s i;have m0:∀ k l h,¬ zaI s k l h<0->128<=l->l - 128<=zaI s k l h/\zaI s k l h<=h - 128:=by
  intro k l h q hl;obtain ⟨_,h1,h2,h3⟩:=zgP (s:=s) (i:=k) (l:=l) (h:=h) (by omega);omega
 unfold dec
 split
 ·simp only;omega
 split
 ·split
  ·rename_i q;have:=m0 (i+1) 128 191 (by omega) (by omega);simp only;omega
  ·simp only;omega
 split
 ·rename_i hb;unfold zhI
  split
  ·simp only;omega
  ·rename_i q;simp only[not_or] at q;have a:=m0 (i+1) (zfO (zaC s i)) (zc3 (zaC s i)) q.1 (by unfold zfO;split <;> omega);have b:=m0 (i+2) 128 191 q.2 (by omega);have c:zc3 (zaC s i)<=191/\(zaC s i=237->zc3 (zaC s i)=159):=(by unfold zc3;split <;> omega);have d:128<=zfO (zaC s i):=(by unfold zfO;split <;> omega);simp only;omega
 split
 ·rename_i hb;unfold zsC
  split
  ·simp only;omega
  ·rename_i q;simp only[not_or] at q;have a:=m0 (i+1) (zfI (zaC s i)) (zc4 (zaC s i)) q.1 (by unfold zfI;split <;> omega);have b:=m0 (i+2) 128 191 q.2.1 (by omega);have b2:=m0 (i+3) 128 191 q.2.2 (by omega);have c:zc4 (zaC s i)<=191/\(zaC s i=244->zc4 (zaC s i)=143):=(by unfold zc4;split <;> omega);have d:128<=zfI (zaC s i)/\(zaC s i=240->zfI (zaC s i)=144):=(by unfold zfI;split <;> omega);simp only;omega
 ·simp only;omega
theorem zlX:∀ (l:Bs) (bg iw sm:Bool),(ini l bg iw sm).length<=6 * l.length
 | [],_,_,_=>by simp [ini]
 | b :: r,bg,iw,sm=>by
  rw[zdM];have h1:=zlX r true false sm;have h2:=zlX r true iw sm;have h3:=zlX r false true true;have h4:=zlX r false iw sm;have hp:(zdR (b :: r)).length<=5:=(by unfold zdR;have:=zBF (dec (bs (b :: r)) 0).1;simp;omega);have hl:(if iw then [45] else if sm then [32] else ([]:Bs)).length<=1:=(by cases iw <;> cases sm <;> simp);simp only[List.length_cons]
  split
  ·omega
  split
  ·omega
  split
  ·simp only[List.length_append];omega
  ·omega
theorem zo2 (g:Bs):(zc8 g).length<=6 * g.length:=by rw[zj3];exact zlX g _ _ _
def ziP (g:Bs) (i:Bool):Bs:=if i then zc8 g else g
def zDy (f g p s:Bs) (i:Bool):Bs:=zbS [p,f] ++ (if ziP g i=[] then [] else [44,32] ++ ziP g i) ++ (if s=[] then [] else [44,32] ++ s)
theorem zj4 (f g p s:Bs) (i:Bool) (w:World) (hs:f.length+g.length+p.length+s.length<=1000000) :
  Calls Tryz.prog 87 #[ziZ f g p s,.bool i] w fun e w'=>e=.returned (.string (bs (zDy f g p s i)))/\Kept w w':=by
 have hbu:zmS [p,f]<=1000002:=(by simp [zmS];omega);have hsh:=zeB [p,f];have hin:=zo2 g;have HL:Hid (zDy f g p s i=zbS [p,f] ++ (if ziP g i=[] then [] else [44,32] ++ ziP g i) ++ (if s=[] then [] else [44,32] ++ s)):=rfl;have hgl:(ziP g i).length<=6000000:=(by unfold ziP;split <;> omega);have HS:=Hd (fun w=>zp1 f g p s w (by omega));have HI:=Hd (fun w=>zq7 f g p s w (by omega));have HGI:Hid (ziP g i=if i then zc8 g else g):=rfl;generalize zbS [p,f]=sh at *;generalize zc8 g=il at *;generalize ziP g i=gv at *;cases i
 ·obtain rfl:gv=g:=HGI.out;clear HGI;by_cases hg:gv=[] <;> by_cases hs':s=[]
  all_goals
   first|subst hg|(have hge:gv.isEmpty=false:=by simpa using hg)
   first|subst hs'|(have hse:s.isEmpty=false:=by simpa using hs')
   try simp only[List.length_nil,Nat.add_zero,Nat.zero_add] at hs
   go_enter Tryz.func87,Tryz.ntmps87;go_wp2_with fail;refine (HS.out _).mono ?_;rintro e w1 ⟨rfl,hk1⟩;obtain ⟨kc,kf⟩:=zbC hk1;have hz:w.heap.size<w1.heap.size:=(by have:=hk1.size;simp at this;omega);have HK:=Hd ((zaA w _).trans hk1);clear hk1;go_wp2_with fail;go_ret;exact ⟨zb1 (by rw[HL.out];simp [*]),HK.out⟩
 ·obtain rfl:gv=il:=HGI.out;clear HGI;by_cases hg:gv=[] <;> by_cases hs':s=[]
  all_goals
   first|subst hg|(have hge:gv.isEmpty=false:=by simpa using hg)
   first|subst hs'|(have hse:s.isEmpty=false:=by simpa using hs')
   try simp only[List.length_nil,Nat.add_zero,Nat.zero_add] at hs
   go_enter Tryz.func87,Tryz.ntmps87;go_wp2_with fail;refine (HI.out _).mono ?_;rintro e w1 ⟨rfl,hk1⟩;obtain ⟨kc,kf⟩:=zbC hk1;have hz:w.heap.size<w1.heap.size:=(by have:=hk1.size;simp at this;omega);have HK1:=Hd hk1;clear hk1;go_wp2_with fail;refine (HS.out _).mono ?_;rintro e w2 ⟨rfl,hk2⟩;have HK2:=Hd (HK1.out.trans hk2);clear kc kf hk2 hz;obtain ⟨kc,kf⟩:=zbC HK2.out;have hz:w.heap.size<w2.heap.size:=(by have:=HK2.out.size;simp at this;omega);have HK:=Hd ((zaA w _).trans HK2.out);go_wp2_with fail;go_ret;exact ⟨zb1 (by rw[HL.out];simp [*]),HK.out⟩
def zm3 (q:P4):Bs:=zDy q.1 q.2.1 q.2.2.1 q.2.2.2 false
def zkE (s:SrcT):List P4:=if s.author=[] then s.editor else s.author
def zf7 (s:SrcT):Bs:=Lib.join ((zkE s).map zm3) [44,32]
theorem zzE {ps:List P4} {k:Nat} {q:P4} (h:ps[k]? = some q):(ps.take (k+1)).map zm3=(ps.take k).map zm3 ++ [zm3 q]:=by
 rw[List.take_succ,h,List.map_append];rfl
theorem zq9 (vA vE vF:Value) (s:SrcT) (w:World) (hA:Perss w vA s.author) (hE:Perss w vE s.editor) (hF:vF.oneCell'=true) (hl:(zkE s).length<=1000) (hq:∀ q∈zkE s,q.1.length+q.2.1.length+q.2.2.1.length+q.2.2.2.length<=1000000) (hj:(zf7 s).length<=1000000000) :
  Calls Tryz.prog 36 #[zhB s.key s.type vA vE vF] w fun e w'=>e=.returned (.string (bs (zf7 s)))/\Kept w w':=by
 obtain ⟨i0,hi,hz0,hz1,hz2⟩:=info_parts Tryz.infoStr;obtain ⟨aA,cA,rfl,lA⟩:=hA.shape;obtain ⟨aE,cE,rfl,lE⟩:=hE.shape;have HK0:=Hd (zaA w (.cells #[.string (bs s.key),.string (bs s.type),.slice aA s.author.length cA,.slice aE s.editor.length cE,vF] 50));have HB0:=Hd (Blk.new w 50 #[.string (bs s.key),.string (bs s.type),.slice aA s.author.length cA,.slice aE s.editor.length cE,vF]);obtain ⟨skey,styp,au,ed,fs⟩:=s;simp only at HK0 HB0 hA hE;by_cases hz:au=[]
 ·have HL:Hid (zkE ⟨skey,styp,au,ed,fs⟩=ed):=if_pos hz;rw[HL.out] at hl hq;have HJ:Hid (∀ v w',Strs w' v (ed.map zm3)->Calls Tryz.prog 88 #[v,.string (bs [44,32])] w' fun e w''=>e=.returned (.string (bs (zf7 ⟨skey,styp,au,ed,fs⟩)))/\Kept w' w''):=fun v w' h=>by
   have:=zd5 v (ed.map zm3) [44,32] w' h (by rw[List.length_map];omega) (by unfold zf7 at hj;rw[HL.out] at hj;exact hj);unfold zf7;rw[HL.out];exact this
  generalize zf7 ⟨skey,styp,au,ed,fs⟩=R at *;subst hz;have HP:=Hd (hE.kept HK0.out);have HQ:=Hd hq;clear hA hE hq hj HL;go_enter Tryz.func36,Tryz.ntmps36;go_wp2_with fail;generalize w.alloc _=w1 at *;go_loopw [4,16] (fun o i wr=>∃ (k:Nat),k<=ed.length/\i=.int .i64 k/\Hid (OutG StrK 1 (fun _=>False) w1.heap.size 9 wr o ((ed.take k).map zm3))/\Hid (Kept w1 wr)) (fun _ i _=>ed.length - (intOf i).toNat)
  case atStart=>exact ⟨0,Nat.zero_le _,rfl,OutG.nil _ _ _ _ _ _,Kept.refl _⟩
  case round =>
   obtain ⟨k,hk,rfl,HGR,HKR⟩:=hrel;by_cases hlt:k<ed.length
   ·obtain ⟨q,hx⟩:∃ x,ed[k]? = some x:=⟨_,List.getElem?_eq_getElem hlt⟩;have hqs:=HQ.out q (List.mem_of_getElem? hx);have HT:=Hd (zzE hx);obtain ⟨g,o,rfl,hg,d0,d1,d2,d3⟩:=(HP.out.kept HKR.out).at_ k q hx;obtain ⟨us,HUS⟩:∃ us,Hid ((ed.take k).map zm3=us):=⟨_,rfl⟩;have hul:us.length<=1000:=(by rw[<- HUS.out,List.length_map,List.length_take];omega);rw[HUS.out] at HGR HT;obtain ⟨nm,HNM⟩:∃ nm,Hid (zm3 q=nm):=⟨_,rfl⟩;rw[HNM.out] at HT;obtain ⟨q1,q2,q3,q4⟩:=q;simp only at d0 d1 d2 d3 hqs;have HKI:=Hd (zaA wr (.cells #[.string (bs q1),.string (bs q2),.string (bs q3),.string (bs q4)] 77));have HIN:=Hd (zj4 q1 q2 q3 q4 false (wr.alloc (.cells #[.string (bs q1),.string (bs q2),.string (bs q3),.string (bs q4)] 77)) (by omega));have HNM2:Hid (zDy q1 q2 q3 q4 false=nm):=HNM.out;rw[HNM2.out] at HIN;clear hx HNM HNM2;go_wp2_with fail;refine HIN.out.mono ?_;rintro e w3 ⟨rfl,hk3⟩;have HK3:=Hd (HKI.out.trans hk3);have HG3:=Hd (HGR.out.kept zfJ HK3.out);have HROW:=Hd (Blk.new w3 9 #[.string (bs nm)]);have HK6:=Hd (zaA w3 (.cells #[.string (bs nm)] 9));have HG6:=Hd (HG3.out.kept zfJ HK6.out);obtain ⟨ar,cr,rfl,hcr,hmr⟩:=HGR.out.form;have hb6:w1.heap.size<=(w3.alloc (.cells #[.string (bs nm)] 9)).heap.size:=((HKR.out.trans HK3.out).trans HK6.out).size;clear hk3 HIN HG3 d0 d1 d2 d3;go_wp2_with (at_builtin;refine zjE ?_);refine Hd ?_;refine zaQ zfJ rfl (.tmp 20) (.tmp 23) 29 rfl i0 _ 16 Tryz.underlying29 hi hz0 hz1 hz2 rfl (by omega) (by rfl) HG6.out _ [.string (bs nm)] nm (by rfl) (fun j u hu=>HROW.out.cell j u (by rw[<- Array.getElem?_toList];exact hu)) rfl rfl (by unfold maxLen;omega) (by omega) hb6 _ rfl ?_;intro g7 c7' w7 hout7 hgrow7 hat7 hlt7;have HOUT8:Hid (OutG StrK 1 (fun _=>False) w1.heap.size 9 w7 (.slice (some ⟨g7,0,none⟩) (us.length+1) c7') ((ed.take (k+1)).map zm3)):=(by rw[HT.out];exact hout7);have HK7:Hid (Kept w1 w7):=((HKR.out.trans HK3.out).trans HK6.out).trans' ((Only.grown hgrow7).below ((HKR.out.trans HK3.out).trans HK6.out).size (fun i q=>(HG6.out.blk i q.symm).1));clear hout7 hgrow7 hat7 HROW HK6 HG6 HK3 HKI HGR HKR HT HUS;go_wp2_with fail;go_roundw
    case rel=>exact ⟨k+1,by omega,by go_num,HOUT8.out,HK7.out⟩
    case measure=>simp [intOf];omega
   ·obtain rfl:k=ed.length:=(by omega);rw[List.take_length] at HGR;obtain ⟨ms,HMS⟩:∃ ms,Hid (ed.map zm3=ms):=⟨_,rfl⟩;rw[HMS.out] at HGR HJ;obtain ⟨ar,cr,rfl,hcr,hmr⟩:=HGR.out.form;have HJX:=Hd (HJ.out _ wr (Strs.outO HGR.out));have HKZ:=Hd (HK0.out.trans HKR.out);clear HGR HKR HJ;go_wp2_with fail;refine HJX.out.mono ?_;rintro e w8 ⟨rfl,hk8⟩;have HKY:=Hd (HKZ.out.trans hk8);clear hk8 HJX;go_wp2_with fail
    (try go_ret)
    exact ⟨rfl,HKY.out⟩
 ·have HL:Hid (zkE ⟨skey,styp,au,ed,fs⟩=au):=if_neg hz;rw[HL.out] at hl hq;have HJ:Hid (∀ v w',Strs w' v (au.map zm3)->Calls Tryz.prog 88 #[v,.string (bs [44,32])] w' fun e w''=>e=.returned (.string (bs (zf7 ⟨skey,styp,au,ed,fs⟩)))/\Kept w' w''):=fun v w' h=>by
   have:=zd5 v (au.map zm3) [44,32] w' h (by rw[List.length_map];omega) (by unfold zf7 at hj;rw[HL.out] at hj;exact hj);unfold zf7;rw[HL.out];exact this
  generalize zf7 ⟨skey,styp,au,ed,fs⟩=R at *;have hnz:0<au.length:=by
     rcases Nat.eq_zero_or_pos au.length with e|e
     ·exact absurd (List.length_eq_zero_iff.1 e) hz
     ·exact e
  have hnz1:¬ au.length=0:=(by omega);have hnz2:decide ((au.length:Int)=0)=false:=decide_eq_false (by omega);clear hz;have HP:=Hd (hA.kept HK0.out);have HQ:=Hd hq;clear hA hE hq hj HL;go_enter Tryz.func36,Tryz.ntmps36;go_wp2_with fail;generalize w.alloc _=w1 at *;go_loopw [4,16] (fun o i wr=>∃ (k:Nat),k<=au.length/\i=.int .i64 k/\Hid (OutG StrK 1 (fun _=>False) w1.heap.size 9 wr o ((au.take k).map zm3))/\Hid (Kept w1 wr)) (fun _ i _=>au.length - (intOf i).toNat)
  case atStart=>exact ⟨0,Nat.zero_le _,rfl,OutG.nil _ _ _ _ _ _,Kept.refl _⟩
  case round =>
   obtain ⟨k,hk,rfl,HGR,HKR⟩:=hrel;by_cases hlt:k<au.length
   ·obtain ⟨q,hx⟩:∃ x,au[k]? = some x:=⟨_,List.getElem?_eq_getElem hlt⟩;have hqs:=HQ.out q (List.mem_of_getElem? hx);have HT:=Hd (zzE hx);obtain ⟨g,o,rfl,hg,d0,d1,d2,d3⟩:=(HP.out.kept HKR.out).at_ k q hx;obtain ⟨us,HUS⟩:∃ us,Hid ((au.take k).map zm3=us):=⟨_,rfl⟩;have hul:us.length<=1000:=(by rw[<- HUS.out,List.length_map,List.length_take];omega);rw[HUS.out] at HGR HT;obtain ⟨nm,HNM⟩:∃ nm,Hid (zm3 q=nm):=⟨_,rfl⟩;rw[HNM.out] at HT;obtain ⟨q1,q2,q3,q4⟩:=q;simp only at d0 d1 d2 d3 hqs;have HKI:=Hd (zaA wr (.cells #[.string (bs q1),.string (bs q2),.string (bs q3),.string (bs q4)] 77));have HIN:=Hd (zj4 q1 q2 q3 q4 false (wr.alloc (.cells #[.string (bs q1),.string (bs q2),.string (bs q3),.string (bs q4)] 77)) (by omega));have HNM2:Hid (zDy q1 q2 q3 q4 false=nm):=HNM.out;rw[HNM2.out] at HIN;clear hx HNM HNM2;go_wp2_with fail;refine HIN.out.mono ?_;rintro e w3 ⟨rfl,hk3⟩;have HK3:=Hd (HKI.out.trans hk3);have HG3:=Hd (HGR.out.kept zfJ HK3.out);have HROW:=Hd (Blk.new w3 9 #[.string (bs nm)]);have HK6:=Hd (zaA w3 (.cells #[.string (bs nm)] 9));have HG6:=Hd (HG3.out.kept zfJ HK6.out);obtain ⟨ar,cr,rfl,hcr,hmr⟩:=HGR.out.form;have hb6:w1.heap.size<=(w3.alloc (.cells #[.string (bs nm)] 9)).heap.size:=((HKR.out.trans HK3.out).trans HK6.out).size;clear hk3 HIN HG3 d0 d1 d2 d3;go_wp2_with (at_builtin;refine zjE ?_);refine Hd ?_;refine zaQ zfJ rfl (.tmp 20) (.tmp 23) 29 rfl i0 _ 16 Tryz.underlying29 hi hz0 hz1 hz2 rfl (by omega) (by rfl) HG6.out _ [.string (bs nm)] nm (by rfl) (fun j u hu=>HROW.out.cell j u (by rw[<- Array.getElem?_toList];exact hu)) rfl rfl (by unfold maxLen;omega) (by omega) hb6 _ rfl ?_;intro g7 c7' w7 hout7 hgrow7 hat7 hlt7;have HOUT8:Hid (OutG StrK 1 (fun _=>False) w1.heap.size 9 w7 (.slice (some ⟨g7,0,none⟩) (us.length+1) c7') ((au.take (k+1)).map zm3)):=(by rw[HT.out];exact hout7);have HK7:Hid (Kept w1 w7):=((HKR.out.trans HK3.out).trans HK6.out).trans' ((Only.grown hgrow7).below ((HKR.out.trans HK3.out).trans HK6.out).size (fun i q=>(HG6.out.blk i q.symm).1));clear hout7 hgrow7 hat7 HROW HK6 HG6 HK3 HKI HGR HKR HT HUS;go_wp2_with fail;go_roundw
    case rel=>exact ⟨k+1,by omega,by go_num,HOUT8.out,HK7.out⟩
    case measure=>simp [intOf];omega
   ·obtain rfl:k=au.length:=(by omega);rw[List.take_length] at HGR;obtain ⟨ms,HMS⟩:∃ ms,Hid (au.map zm3=ms):=⟨_,rfl⟩;rw[HMS.out] at HGR HJ;obtain ⟨ar,cr,rfl,hcr,hmr⟩:=HGR.out.form;have HJX:=Hd (HJ.out _ wr (Strs.outO HGR.out));have HKZ:=Hd (HK0.out.trans HKR.out);clear HGR HKR HJ;go_wp2_with fail;refine HJX.out.mono ?_;rintro e w8 ⟨rfl,hk8⟩;have HKY:=Hd (HKZ.out.trans hk8);clear hk8 HJX;go_wp2_with fail
    (try go_ret)
    exact ⟨rfl,HKY.out⟩
end Go.Proofs.YtmcoomlkbgiboaaGreatDoor
