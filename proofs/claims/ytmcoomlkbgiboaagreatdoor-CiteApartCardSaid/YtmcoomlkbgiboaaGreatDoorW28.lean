/- rank, key and Key of collate. Conditions: lengths. -/
import Derived.Test.YtmcoomlkbgiboaaGreatDoorW27
import Derived.Test.YtmcoomlkbgiboaaGreatDoorW25
import Derived.Test.YtmcoomlkbgiboaaGreatDoorW16
import Derived.Test.YtmcoomlkbgiboaaGreatDoorW24
import Derived.Lib.Bytealg
import Derived.Laws.StructEq
set_option linter.all false
set_option maxRecDepth 100000
set_option maxHeartbeats 6400000
namespace Go.Proofs.YtmcoomlkbgiboaaGreatDoor
open Go.RowKit
theorem znR (l:Bs):∀ (n k:Nat),l.length - k<=n->∀ y∈zsL l k,0<=y/\y<=1114111/\(y<55296\/57343<y)
 | 0,k,hk,y,hy=>by rw[zh8 l k (by omega)] at hy;cases hy
 | n+1,k,hk,y,hy=>by
  by_cases q:k<l.length
  ·rw[zoG l k q] at hy;rcases List.mem_cons.1 hy with rfl|hy
   ·exact zqS (bs l) k
   ·have hb:=za8 (bs l) k (by simpa using q);exact znR l n _ (by omega) y hy
  ·rw[zh8 l k q] at hy;cases hy
theorem zzN (l:Bs):∀ y∈zeO l,0<=y/\y<=1114111/\(y<55296\/57343<y):=znR l _ 0 (Nat.le_refl _)
theorem zzO {c:ColT} {x:Int} {ys:List Int} (h:znH c x=some ys):∀ y∈ys,0<=y/\y<=1114111/\(y<55296\/57343<y):=by
 unfold znH at h;cases hf:c.ranks.find? (fun p=>zeO p.1 == [x]) with
 | none=>rw[hf] at h;cases h
 | some p=>rw[hf] at h;cases h;exact zzN p.2
theorem zzP {c:ColT} (hs:SmallC c) {x:Int} {ys:List Int} (h:znH c x=some ys):ys.length<=1000:=by
 unfold znH at h;cases hf:c.ranks.find? (fun p=>zeO p.1 == [x]) with
 | none=>rw[hf] at h;cases h
 | some p =>
  rw[hf] at h;cases h;have:=(hs.2.2.2.2 p (List.mem_of_find?_eq_some hf)).2;have h2:=zh9 p.2;simp only;omega
theorem zB6 (v:Value) (c:ColT) (x:Int) (w:World) (hv:TabR w v c) (hs:SmallC c) (hx0:0<=x) (hx1:x<=1114111) :
  Calls Tryz.prog 193 #[v,.int .i64 x] w fun e w'=>e=.returned (.int .i64 (zh5 c x))/\Kept w w':=by
 obtain ⟨m1,m2,m3,es,rfl,h1,h2,h3,h4⟩:=hv;have hn:=hs.2.1;have HR:Hid (zh5 c x=if x=32 then 0 else match zDs c x with
  | some i=>(i:Int)+1
  | none=>(c.order.length:Int)+1+x):=rfl
 have hlen:∀ i,zDs c x=some i->i<c.order.length:=fun i h=>by
  unfold zDs at h;exact (List.findIdx?_eq_some_iff_getElem.1 h).1
 have lk:=zkI (P:=Tryz.prog) Tryz.underlying194 Tryz.underlying3 (w.alloc (.cells #[.map (some m1),.map (some m2),.map (some m3),.int .i64 c.order.length] 196)) m3 (zE2 c) x (.int .i64 0) (Tryz.zeroInt _) (h4.kept (zaA _ _));rw[zDu] at lk;generalize zh5 c x=R at *;generalize c.order.length=n at *;clear h1 h2 h3 h4;by_cases h32:x=32
 ·rw[if_pos h32] at HR;subst h32;clear lk;go_enter Tryz.func193,Tryz.ntmps193;go_wp2_with fail;go_ret;exact ⟨zaK HR.out.symm,zaA _ _⟩
 rw[if_neg h32] at HR;have h32':(x == 32)=false:=(by simpa using h32);cases hgi:zDs c x with
 | none =>
  rw[hgi] at HR lk;simp only[Option.map_none,Option.getD_none,Option.isSome_none] at lk;have HR2:Hid (R=(n:Int)+1+x):=HR;clear HR hgi hlen;go_enter Tryz.func193,Tryz.ntmps193;go_wp2_with fail;go_ret;exact ⟨zaK HR2.out.symm,zaA _ _⟩
 | some i =>
  have hi:=hlen i hgi;rw[hgi] at HR lk;simp only[Option.map_some,Option.getD_some,Option.isSome_some] at lk;have HR2:Hid (R=(i:Int)+1):=HR;clear HR hgi hlen;go_enter Tryz.func193,Tryz.ntmps193;go_wp2_with fail;go_ret;exact ⟨zaK HR2.out.symm,zaA _ _⟩
theorem zDH (c:ColT) (s:Bs) (k:Nat) (h:k<s.length):(zsL s k).flatMap (zi2 c)=zi2 c (dec (bs s) k).1 ++ (zsL s (k+(dec (bs s) k).2.toNat)).flatMap (zi2 c):=by
 rw[zoG s k h,List.flatMap_cons]
def RowQ (xs:List Int) (w:World) (e:Ending) (w':World):Prop:=∃ v,e=.returned v/\w'.ownsRow w.heap.size 3 1 v xs.length (zyK xs)/\Kept w w'
theorem zDI (v:Value) (c:ColT) (s:Bs) (w:World) (hv:TabR w v c) (hs:SmallC c) (hl:s.length<=100000) :
  Calls Tryz.prog 146 #[v,.string (bs s)] w (RowQ (zf9 c s) w):=by
 obtain ⟨i0,hi,hz0,hz1,hz2⟩:=info_parts Tryz.infoInt;have HTR:=Hd hv;have HRK:=Hd (fun w' x (h:Kept w w') h0 h1=>zB6 v c x w' (hv.kept h) hs h0 h1);obtain ⟨m1,m2,m3,es,rfl,h1,h2,h3,h4⟩:=hv;have HM1:=Hd h1;have HM2:=Hd h2;have HVR:=Hd h3;have HVL:Hid (∀ x ys,znH c x=some ys->ys.length<=1000/\∀ y∈ys,0<=y/\y<=1114111/\(y<55296\/57343<y)):=fun x ys h=>⟨zzP hs h,zzO h⟩;clear h1 h2 h3 h4;have H0:Hid (zf9 c s=[] ++ (zsL s 0).flatMap (zi2 c)):=(by show _=_;rw[zlJ];rfl);have HB0:=Hd (Blk.new w 196 #[.map (some m1),.map (some m2),.map (some m3),.int .i64 c.order.length]);have HK0:=Hd (zaA w (.cells #[.map (some m1),.map (some m2),.map (some m3),.int .i64 c.order.length] 196));unfold RowQ;go_enter Tryz.func146,Tryz.ntmps146;go_wp2_with fail;go_loopw [5] (fun v wr=>∃ (pos:Nat) (xs:List Int),pos<=s.length/\xs.length<=1000 * pos/\wr.heap[w.heap.size+1]? = some (.stringIter (bs s) pos)/\wr.ownsRow (w.heap.size+2) 3 1 v xs.length (zyK xs)/\Hid (zf9 c s=xs ++ (zsL s pos).flatMap (zi2 c))/\Hid (Blk wr w.heap.size 196 #[.map (some m1),.map (some m2),.map (some m3),.int .i64 c.order.length])/\Hid (Kept w wr)) (fun _ wr=>s.length - wr.iterPos (w.heap.size+1))
 case atStart=>exact ⟨0,[],Nat.zero_le _,Nat.zero_le _,by have h:=World.iter_heap (w.alloc (.cells #[.map (some m1),.map (some m2),.map (some m3),.int .i64 c.order.length] 196)) (bs s) 0;simpa using h,World.ownsRow_nil _ _ _ _,H0.out,HB0.out.alloc _,HK0.out.trans (zaA _ _)⟩
 case round =>
  obtain ⟨pos,xs,hp,hxl,hit,hown,HA,HB,HK⟩:=hrel;have hip:wr.iterPos (w.heap.size+1)=pos:=(by simp [World.iterPos,hit]);have hsz:w.heap.size+1<wr.heap.size:=by
   rcases Nat.lt_or_ge (w.heap.size+1) wr.heap.size with q|q
   ·exact q
   ·rw[Array.getElem?_eq_none q] at hit;cases hit
  by_cases hlt:pos<s.length
  ·have nx:=fun ty=>zcT (P:=Tryz.prog) wr (w.heap.size+1) (bs s) pos ty hit hlt;have hb:=za8 (bs s) pos hlt;have hdv:=zqS (bs s) pos;have HP:=Hd (zDH c s pos hlt);have hitW:(wr.iterAt (w.heap.size+1) (bs s) (pos+(dec (bs s) pos).2.toNat)).heap[w.heap.size+1]? = some (.stringIter (bs s) (pos+(dec (bs s) pos).2.toNat)):=Lib.iterAt_heap wr (w.heap.size+1) (bs s) pos _ hit;have hkW:Kept w (wr.iterAt (w.heap.size+1) (bs s) (pos+(dec (bs s) pos).2.toNat)):=Lib.below_iterAt HK.out (by omega) (bs s) _;have hoW:=zhD hown hit (bs s) (pos+(dec (bs s) pos).2.toNat);have hbW:=HB.out.onl (zlM wr (w.heap.size+1) (bs s) (pos+(dec (bs s) pos).2.toNat)) (by omega);have hzW:(wr.iterAt (w.heap.size+1) (bs s) (pos+(dec (bs s) pos).2.toNat)).heap.size=wr.heap.size:=Lib.iterAt_size ..;obtain ⟨x,n,hd⟩:∃ c n,dec (bs s) pos=(c,n):=⟨(dec (bs s) pos).1,(dec (bs s) pos).2,rfl⟩;rw[hd] at nx hb hdv HP hitW hkW hoW hbW hzW;simp only at nx hb hdv HP hitW hkW hoW hbW hzW;obtain ⟨b1,b2,b3,b4,b5⟩:=hb;simp only[zeI] at b5;obtain ⟨hx0,hx1,_⟩:=hdv;obtain ⟨W,HW⟩:∃ W,Hid (wr.iterAt (w.heap.size+1) (bs s) (pos+n.toNat)=W):=⟨_,rfl⟩;simp only[HW.out] at nx hitW hkW hoW hbW hzW;have HITW:=Hd hitW;have HKW:=Hd hkW;have HOW:=Hd hoW;have HBW:=Hd hbW;have HIP:=Hd hip;have hszW:w.heap.size+1<W.heap.size:=(by omega);have t0:W.cell? ⟨w.heap.size,0,none⟩=some (.map (some m1)):=hbW.cell 0 _ rfl;have t1:W.cell? ⟨w.heap.size,1,none⟩=some (.map (some m2)):=hbW.cell 1 _ rfl;have t2:W.cell? ⟨w.heap.size,2,none⟩=some (.map (some m3)):=hbW.cell 2 _ rfl;have t3:W.cell? ⟨w.heap.size,3,none⟩=some (.int .i64 c.order.length):=hbW.cell 3 _ rfl;have lk1:=zvR (P:=Tryz.prog) Tryz.underlying116 Tryz.underlying3 W m1 (ze3 (zeO c.ignore)) x (.bool false) (Tryz.zeroBool W) (HM1.out.kept hkW);rw[zgQ] at lk1;have HK1:Hid (zi2 c x=if (zeO c.ignore).contains x=true then [] else match znH c x with
    | some v=>v.map (zh5 c)
    | none=>[zh5 c x]):=rfl
   clear hitW hkW hoW hbW hzW hd hip hit hown HK HB;cases hct:(zeO c.ignore).contains x
   case true =>
    rw[hct] at lk1 HK1;rw[if_pos rfl] at HK1;have hown:=HOW.out;go_wp2_with fail;go_roundw
    case rel=>exact ⟨pos+n.toNat,xs,by omega,by omega,HITW.out,hown,by show _=_;rw[HA.out,HP.out,HK1.out];simp,HBW.out,HKW.out⟩
    case measure=>rw[HIP.out];have:=HITW.out;simp [World.iterPos,this];omega
   rw[hct] at lk1 HK1;rw[if_neg (by simp)] at HK1;have lk2:=zkI (P:=Tryz.prog) Tryz.underlying193 Tryz.underlying3 W m2 es x (.slice none 0 0) (Tryz.zeroInts W) (HM2.out.kept HKW.out);have HVX:=Hd (HVR.out x);cases hval:znH c x with
   | none =>
    rw[hval] at HVX HK1;have hgn:zdA es x=none:=HVX.out;rw[hgn] at lk2;simp only[Option.getD_none,Option.isSome_none] at lk2;have HK2:Hid (zi2 c x=[zh5 c x]):=HK1;have HRX:=Hd (fun w' h=>HRK.out w' x h hx0 hx1);generalize zh5 c x=r at *;clear hval hgn HK1;go_wp2_with fail;refine (HRX.out _ HKW.out).mono ?_;rintro e w3 ⟨rfl,hk3⟩;have HK3:=Hd (HKW.out.trans hk3);have HB3:=Hd (HBW.out.kept hk3);have HIT3:Hid (w3.heap[w.heap.size+1]? = some (.stringIter (bs s) (pos+n.toNat))):=by
     show _=_;rw[hk3.block _ hszW];exact HITW.out
    have hown:=zaX HOW.out hk3;have hsz3:W.heap.size<=w3.heap.size:=hk3.size;clear hk3 t0 t1 t2 t3;go_wp2_with (at_builtin;refine wpList_append_own _ rfl _ _ 199 rfl (w.heap.size+2) 3 i0 (.int .i64 0) 1 8 Tryz.underlying199 hi hz0 hz1 hz2 rfl (by decide) _ _ _ rfl (hown.alloc _) ⟨w3.heap.size,0,none⟩ 1 1 [.int .i64 r] rfl rfl (za5 _ #[.int .i64 r] _ _ (by simp)) (by intro u hu;simp at hu;subst hu;rfl) (by unfold maxLen;omega) (by omega) (by simp;omega) ?_;intro v' w4 hown2 hgrow2 _);have hb4:Below (w.heap.size+2) w3 w4:=((Below.refl _ w3).alloc (by omega) _).trans (zaO (hown.alloc _) hgrow2 (by simp;omega));have HK4:=Hd (HK3.out.trans' (hb4.mono (by omega)));have HB4:Hid (Blk w4 w.heap.size 196 #[.map (some m1),.map (some m2),.map (some m3),.int .i64 c.order.length]):=(hb4.block _ (by omega)).trans HB3.out;have HIT4:Hid (w4.heap[w.heap.size+1]? = some (.stringIter (bs s) (pos+n.toNat))):=(hb4.block _ (by omega)).trans HIT3.out;rw[<- ziA] at hown2;have HO:=Hd hown2;clear hown2 hgrow2 hown hb4;go_wp2_with fail;go_roundw
    case rel=>exact ⟨pos+n.toNat,xs ++ [r],by omega,by simp;omega,HIT4.out,by simpa using HO.out,by show _=_;rw[HA.out,HP.out,HK2.out];simp,HB4.out,HK4.out⟩
    case measure=>rw[HIP.out];have:=HIT4.out;simp [World.iterPos,this];omega
   | some ys =>
    rw[hval] at HVX HK1;have hgs:∃ u,zdA es x=some u/\Ints w u ys:=HVX.out;obtain ⟨u,hu,hiu⟩:=hgs;rw[hu] at lk2;simp only[Option.getD_some,Option.isSome_some] at lk2;have HK2:Hid (zi2 c x=ys.map (zh5 c)):=HK1;obtain ⟨hyl,hyr⟩:=HVL.out x ys hval;have HYR:=Hd hyr;have HIU:=Hd hiu;obtain ⟨au,cu,rfl,hcu⟩:=hiu.form;have hown:=HOW.out;clear hval hu HK1 HVX hyr hiu;go_wp2_with fail;clear t0 t1 t2 t3;go_loopw [5,41] (fun v i wr2=>∃ (j:Nat) (zs:List Int),j<=ys.length/\i=.int .i64 j/\zs.length=xs.length+j/\wr2.heap[w.heap.size+1]? = some (.stringIter (bs s) (pos+n.toNat))/\wr2.ownsRow (w.heap.size+2) 3 1 v zs.length (zyK zs)/\Hid (zs=xs ++ (ys.take j).map (zh5 c))/\Hid (Blk wr2 w.heap.size 196 #[.map (some m1),.map (some m2),.map (some m3),.int .i64 c.order.length])/\Hid (Kept w wr2)) (fun _ i _=>ys.length - (intOf i).toNat)
    case atStart=>exact ⟨0,xs,Nat.zero_le _,rfl,rfl,HITW.out,hown,by show _=_;simp,HBW.out,HKW.out⟩
    case round =>
     clear hown HOW lk1 lk2 nx;obtain ⟨j,zs,hj,rfl,hzl,hit2,hown,HZ,HB2,HK2'⟩:=hrel;have hsz2:w.heap.size+1<wr.heap.size:=by
      rcases Nat.lt_or_ge (w.heap.size+1) wr.heap.size with q|q
      ·exact q
      ·rw[Array.getElem?_eq_none q] at hit2;cases hit2
     have HIT2:=Hd hit2;clear hit2;by_cases hlt2:j<ys.length
     ·obtain ⟨y,hy⟩:∃ y,ys[j]? = some y:=⟨_,List.getElem?_eq_getElem hlt2⟩;obtain ⟨g,o,rfl,hg,d0⟩:=(HIU.out.kept HK2'.out).cell_of j y hy;obtain ⟨hy0,hy1,_⟩:=HYR.out y (List.mem_of_getElem? hy);have HZ2:Hid (zs ++ [zh5 c y]=xs ++ (ys.take (j+1)).map (zh5 c)):=by
       show _=_;obtain ⟨hj',rfl⟩:=List.getElem?_eq_some_iff.1 hy;rw[List.take_succ_eq_append_getElem hj',HZ.out,List.map_append,List.append_assoc];rfl
      have HRX:=Hd (fun w' h=>HRK.out w' y h hy0 hy1);generalize zh5 c y=r at *;have t0:wr.cell? ⟨w.heap.size,0,none⟩=some (.map (some m1)):=HB2.out.cell 0 _ rfl;have t1:wr.cell? ⟨w.heap.size,1,none⟩=some (.map (some m2)):=HB2.out.cell 1 _ rfl;have t2:wr.cell? ⟨w.heap.size,2,none⟩=some (.map (some m3)):=HB2.out.cell 2 _ rfl;have t3:wr.cell? ⟨w.heap.size,3,none⟩=some (.int .i64 c.order.length):=HB2.out.cell 3 _ rfl;have HOWN:=Hd hown;clear hy hown;go_wp2_with fail;refine (HRX.out _ HK2'.out).mono ?_;rintro e w3 ⟨rfl,hk3⟩;have HK3:=Hd (HK2'.out.trans hk3);have HB3:=Hd (HB2.out.kept hk3);have HIT3:Hid (w3.heap[w.heap.size+1]? = some (.stringIter (bs s) (pos+n.toNat))):=by
       show _=_;rw[hk3.block _ hsz2];exact HIT2.out
      have hown:=zaX HOWN.out hk3;have hsz3:wr.heap.size<=w3.heap.size:=hk3.size;clear hk3 t0 t1 t2 t3 d0 hg;go_wp2_with (at_builtin;refine wpList_append_own _ rfl _ _ 199 rfl (w.heap.size+2) 3 i0 (.int .i64 0) 1 8 Tryz.underlying199 hi hz0 hz1 hz2 rfl (by decide) _ _ _ rfl (hown.alloc _) ⟨w3.heap.size,0,none⟩ 1 1 [.int .i64 r] rfl rfl (za5 _ #[.int .i64 r] _ _ (by simp)) (by intro u hu;simp at hu;subst hu;rfl) (by unfold maxLen;omega) (by omega) (by simp;omega) ?_;intro v' w4 hown2 hgrow2 _);have hb4:Below (w.heap.size+2) w3 w4:=((Below.refl _ w3).alloc (by omega) _).trans (zaO (hown.alloc _) hgrow2 (by simp;omega));have HK4:=Hd (HK3.out.trans' (hb4.mono (by omega)));have HB4:Hid (Blk w4 w.heap.size 196 #[.map (some m1),.map (some m2),.map (some m3),.int .i64 c.order.length]):=(hb4.block _ (by omega)).trans HB3.out;have HIT4:Hid (w4.heap[w.heap.size+1]? = some (.stringIter (bs s) (pos+n.toNat))):=(hb4.block _ (by omega)).trans HIT3.out;rw[<- ziA] at hown2;have HO:=Hd hown2;clear hown2 hgrow2 hown hb4;go_wp2_with fail;go_roundw
      case rel=>exact ⟨j+1,zs ++ [r],by omega,by go_num,by simp;omega,HIT4.out,by simpa using HO.out,HZ2.out,HB4.out,HK4.out⟩
      case measure=>simp [intOf];omega
     ·obtain rfl:j=ys.length:=(by omega);have HZZ:Hid (zs=xs ++ zi2 c x):=by
       show _=_;have h:=HZ.out;rw[List.take_of_length_le (Nat.le_refl _)] at h;rw[h,HK2.out]
      have HOWN:=Hd hown;clear hown;go_wp2_with fail;go_roundw
      case rel=>exact ⟨pos+n.toNat,zs,by omega,by omega,HIT2.out,HOWN.out,by show _=_;rw[HA.out,HP.out,HZZ.out];simp,HB2.out,HK2'.out⟩
      case measure=>rw[HIP.out];have:=HIT2.out;simp [World.iterPos,this];omega
  ·have nx:=fun ty=>zbR (P:=Tryz.prog) wr (w.heap.size+1) (bs s) pos ty hit hlt;have HI:=Hd (ztH hown (show w.heap.size<=w.heap.size+2 by omega));have HL:Hid (zf9 c s=xs):=by
    show _=_;rw[HA.out,zh8 s pos hlt];simp
   clear hown;go_wp2_with fail;go_ret;exact ⟨_,rfl,by rw[HL.out];exact HI.out,HK.out⟩
theorem zDJ (v:Value) (c:ColT) (s:Bs) (w:World) (hv:TabR w v c) (hs:SmallC c) (hl:s.length<=100000) :
  Calls Tryz.prog 146 #[v,.string (bs s)] w (IntsQ (zf9 c s) w) :=
 (zDI v c s w hv hs hl).mono fun _ _ ⟨v,h1,h2,h3⟩=>⟨v,h1,Ints.own h2,fun g hg=>(h2.lt g hg).1,h3⟩
theorem zzQ (v:Value) (c:ColT) (s:Bs) (w:World) (hv:TabR w v c) (hs:SmallC c) (hl:s.length<=100000) :
  Calls Tryz.prog 146 #[v,.string (bs s)] w (IntsP (zf9 c s) w) :=
 (zDJ v c s w hv hs hl).mono fun _ _ ⟨v,h1,h2,_,h3⟩=>⟨v,h1,h2,h3⟩
theorem zFi (a b:UInt8):a<b↔(a.toNat:Int)<(b.toNat:Int):=by rw[UInt8.lt_iff_toNat_lt];omega
theorem zoZ:∀ a b:Bs,Lib.compareBytes a b=zC7 a b
 | [],[]=>rfl
 | [],_ :: _=>rfl
 | _ :: _,[]=>rfl
 | a :: x,b :: y=>by
  have ih:=zoZ x y;unfold zC7 at ih ⊢;rw[Lib.compareBytes,List.map_cons,List.map_cons,zf0,ih];simp only[zFi]
theorem zzR (v u:Value) (x y:List Int) (w:World) (hv:Ints w v x) (hu:Ints w u y) (hx:x.length<=200000000) (hy:y.length<=200000000) :
  Calls Tryz.prog 145 #[v,u] w fun e w'=>e=.returned (.int .i64 (zf0 x y))/\w=w':=by
 have HV:=Hd hv;have HU:=Hd hu;obtain ⟨a,c,rfl,hc⟩:=hv.form;obtain ⟨b,d,rfl,hd⟩:=hu.form;clear hv hu;have HAT:=Hd (zDD x y);have HEN:=Hd (zBL x y);obtain ⟨R,HR⟩:∃ R,Hid (zf0 x y=R):=⟨_,rfl⟩;rw[HR.out];go_enter Tryz.func145,Tryz.ntmps145;go_wp2_with fail
 go_loop [11] (fun i=>∃ k:Nat,k<=x.length/\k<=y.length/\i=.int .i64 k/\Hid (zf0 (x.drop k) (y.drop k)=R)) (fun i=>x.length - (intOf i).toNat)
 case atStart=>exact ⟨0,Nat.zero_le _,Nat.zero_le _,rfl,HR.out⟩
 case round =>
  obtain ⟨k,hk,hk2,rfl,HA⟩:=hrel;by_cases hlt:k<x.length
  ·obtain ⟨p,hp⟩:∃ z,x[k]? = some z:=⟨_,List.getElem?_eq_getElem hlt⟩;obtain ⟨g,o,rfl,hg,d0⟩:=HV.out.cell_of k p hp;by_cases hlt2:k<y.length
   ·obtain ⟨q,hq⟩:∃ z,y[k]? = some z:=⟨_,List.getElem?_eq_getElem hlt2⟩;obtain ⟨g2,o2,rfl,hg2,d1⟩:=HU.out.cell_of k q hq;have HS:Hid (R=if p<q then -1 else if q<p then 1 else zf0 (x.drop (k+1)) (y.drop (k+1))):=by
     show _=_;rw[<- HA.out,HAT.out k hlt hlt2];obtain ⟨_,rfl⟩:=List.getElem?_eq_some_iff.1 hp;obtain ⟨_,rfl⟩:=List.getElem?_eq_some_iff.1 hq;rfl
    have HC:=Hd (fun w=>Tryz.cmp_Compare_int p q w);unfold Lib.compareInt at HC;clear hp hq;by_cases h1:p<q
    ·rw[if_pos h1] at HS HC;go_wp2_with fail;refine (HC.out _).mono ?_;rintro e w' ⟨rfl,rfl⟩;go_wp2_with fail;go_ret;exact ⟨zaK HS.out.symm,rfl⟩
    rw[if_neg h1] at HS HC;by_cases h2:q<p
    ·rw[if_pos h2] at HS HC;go_wp2_with fail;refine (HC.out _).mono ?_;rintro e w' ⟨rfl,rfl⟩;go_wp2_with fail;go_ret;exact ⟨zaK HS.out.symm,rfl⟩
    rw[if_neg h2] at HS;rw[if_neg (show ¬ p > q from h2)] at HC;go_wp2_with fail;refine (HC.out _).mono ?_;rintro e w' ⟨rfl,rfl⟩;go_wp2_with fail
    go_round
    case rel=>exact ⟨k+1,by omega,by omega,by go_num,HS.out.symm⟩
    case measure=>simp [intOf];omega
   ·have HS:Hid (R=1):=by
     show _=_;rw[<- HA.out,HEN.out k hk hk2 (fun q=>hlt2 q.2),if_neg (by omega),if_pos (by omega)]
    clear hp;go_wp2_with fail;go_ret;exact ⟨zaK HS.out.symm,rfl⟩
  ·have HS:Hid (R=if x.length<y.length then -1 else 0):=by
    show _=_;rw[<- HA.out,HEN.out k hk hk2 (fun q=>hlt q.1)];by_cases q:x.length<y.length
    ·rw[if_pos q,if_pos q]
    ·rw[if_neg q,if_neg q,if_neg (by omega)]
   by_cases h1:x.length<y.length
   ·rw[if_pos h1] at HS;go_wp2_with fail;go_ret;exact ⟨zaK HS.out.symm,rfl⟩
   ·rw[if_neg h1] at HS;go_wp2_with fail;go_ret;exact ⟨zaK HS.out.symm,rfl⟩
theorem zuA {c:ColT} (hs:SmallC c) (s:Bs):(zf9 c s).length<=1000 * s.length:=by
 have h1:∀ x,(zi2 c x).length<=1000:=fun x=>by
  unfold zi2
  split
  ·simp
  ·split
   ·rename_i v hv;have:=zzP hs hv;simpa using this
   ·simp
 have h2:∀ xs:List Int,(xs.flatMap (zi2 c)).length<=1000 * xs.length:=by
  intro xs
  induction xs with
  | nil=>simp
  | cons x xs ih =>
   have:=h1 x;rw[List.flatMap_cons,List.length_append,List.length_cons];omega
 have h3:=h2 (zeO s);have h4:=zh9 s;unfold zf9;omega
theorem zB7 (c:ColT) (a b:Bs):zmZ c a b=if zf0 (zf9 c a) (zf9 c b)≠0 then zf0 (zf9 c a) (zf9 c b) else Lib.compareBytes a b:=by
 rw[zoZ];rfl
theorem zl2 (vR vO:Value) (c:ColT) (a b:Bs) (w:World) (hv:Col w vR vO c) (hs:SmallC c) (ha:a.length<=100000) (hb:b.length<=100000) :
  Calls Tryz.prog 95 #[zAS vR vO c.ignore,.string (bs a),.string (bs b)] w fun e w'=>e=.returned (.int .i64 (zmZ c a b))/\Kept w w':=by
 have HV:=Hd hv;have HT:=Hd (fun w h=>zwB vR vO c w h hs);have HKA:=Hd (fun v w h=>zzQ v c a w h hs ha);have HKB:=Hd (fun v w h=>zzQ v c b w h hs hb);have hla:=zuA hs a;have hlb:=zuA hs b;have HE:=Hd (zB7 c a b);have HEQ:=Hd (fun h:a=b=>(show zmZ c a b=0 from (zzB c a b).2 h));have HSC:=Hd (fun w=>Tryz.strings_Compare (bs a) (bs b) w);simp only[zfI] at HSC;obtain ⟨aR,cR,rfl,lR⟩:=hv.1.form;obtain ⟨aO,cO,rfl,lO⟩:=hv.2.form;clear hv;have HK0:=Hd (zaA w (.cells #[.slice aR c.ranks.length cR,.slice aO c.order.length cO,.string (bs c.ignore)] 88));generalize zmZ c a b=R at *;generalize zf9 c a=ka at *;generalize zf9 c b=kb at *;generalize Lib.compareBytes a b=S at *;unfold IntsP at HKA HKB;by_cases hab:a=b
 ·have HR:=Hd (HEQ.out hab);subst hab;go_enter Tryz.func95,Tryz.ntmps95;go_wp2_with fail;go_ret;exact ⟨zaK HR.out.symm,HK0.out⟩
 have hab':(a == b)=false:=(by simpa using hab);go_enter Tryz.func95,Tryz.ntmps95;go_wp2_with fail;refine (HT.out _ (HV.out.kept HK0.out)).mono ?_;rintro e w1 ⟨v1,rfl,ht1,hk1⟩;have HT1:=Hd ht1;have HK1:=Hd (HK0.out.trans hk1);obtain ⟨m1,m2,m3,es,rfl,_,_,_,_⟩:=ht1;clear hk1;have HB1:=Hd (Blk.new w1 196 #[.map (some m1),.map (some m2),.map (some m3),.int .i64 c.order.length]);have HK2:=Hd (HK1.out.trans (zaA w1 (.cells #[.map (some m1),.map (some m2),.map (some m3),.int .i64 c.order.length] 196)));have HT2:=Hd (HT1.out.kept (zaA w1 (.cells #[.map (some m1),.map (some m2),.map (some m3),.int .i64 c.order.length] 196)));go_wp2_with fail;generalize w1.alloc (.cells #[.map (some m1),.map (some m2),.map (some m3),.int .i64 c.order.length] 196)=w2 at *;generalize w1.heap.size=B at *;have t0:w2.cell? ⟨B,0,none⟩=some (.map (some m1)):=HB1.out.cell 0 _ rfl;have t1:w2.cell? ⟨B,1,none⟩=some (.map (some m2)):=HB1.out.cell 1 _ rfl;have t2:w2.cell? ⟨B,2,none⟩=some (.map (some m3)):=HB1.out.cell 2 _ rfl;have t3:w2.cell? ⟨B,3,none⟩=some (.int .i64 c.order.length):=HB1.out.cell 3 _ rfl;have zt:=HB1.out.lt;have HCC:Hid (∀ w',Kept w2 w'->(w'.cell? ⟨B,0,none⟩=some (.map (some m1))/\w'.cell? ⟨B,1,none⟩=some (.map (some m2))/\w'.cell? ⟨B,2,none⟩=some (.map (some m3))/\w'.cell? ⟨B,3,none⟩=some (.int .i64 c.order.length))/\B<w'.heap.size/\Kept w2 w'):=fun w' h =>
  ⟨⟨(h.cell (p:=⟨B,0,none⟩) zt).trans t0,(h.cell (p:=⟨B,1,none⟩) zt).trans t1,(h.cell (p:=⟨B,2,none⟩) zt).trans t2,(h.cell (p:=⟨B,3,none⟩) zt).trans t3⟩,Nat.lt_of_lt_of_le zt h.size,h⟩
 have hkd:Kept w2 w2.drew:=zaB w2 1;have HCMP:=Hd (fun v u w (h1:Ints w v ka) (h2:Ints w u kb)=>zzR v u ka kb w h1 h2 (by omega) (by omega))
 go_region_held3 (fun w'=>(w'.cell? ⟨B,0,none⟩=some (.map (some m1))/\w'.cell? ⟨B,1,none⟩=some (.map (some m2))/\w'.cell? ⟨B,2,none⟩=some (.map (some m3))/\w'.cell? ⟨B,3,none⟩=some (.int .i64 c.order.length))/\B<w'.heap.size/\Kept w2 w')
  ((refine HCC.out _ ?_;assumption))
  (first
   | (go_at_call 145;refine (HCMP.out _ _ _ HIA2.out HIB2.out).mono ?_;rintro e w5 ⟨rfl,rfl⟩)
   | (go_at_call_of 146 (Value.string (bs b));refine (HKB.out _ _ (HT2.out.kept kA)).mono ?_;rintro e w4 ⟨vB,rfl,hiB,hk4⟩;have kB:Kept w2 w4:=kA.trans hk4;have HIA2:=Hd (HIA.out.kept hk4);have HIB2:=Hd hiB;obtain ⟨aB,cB,rfl,lB⟩:=hiB.form;clear hk4 hiB)
   | (go_at_call_of 146 (Value.string (bs a));refine (HKA.out _ _ (HT2.out.kept hkd)).mono ?_;rintro e w3 ⟨vA,rfl,hiA,hk3⟩;have kA:Kept w2 w3:=hkd.trans hk3;have HIA:=Hd hiA;obtain ⟨aA,cA,rfl,lA⟩:=hiA.form;clear hk3 hiA))
 all_goals
  have HKZ:=Hd (HK2.out.trans kB);clear HCC kA kB HIA2 HIB2;generalize zf0 ka kb=D at *;by_cases hD:D=0
  ·subst hD;rw[if_neg (by simp)] at HE;go_wp2_with fail;refine (HSC.out _).mono ?_;rintro e w6 ⟨rfl,rfl⟩;go_wp2_with fail;go_ret;exact ⟨zaK HE.out.symm,HKZ.out⟩
  ·rw[if_pos hD] at HE;have hD':(D == 0)=false:=(by simpa using hD);go_wp2_with fail;go_ret;exact ⟨zaK HE.out.symm,HKZ.out⟩
def zE5 (x:KeyT):Value:=.agg #[.string (bs x.author),.int .i64 x.year,.string (bs x.title),.string (bs x.key)]
def FitKy (x:KeyT):Prop:=x.author.length<=100000/\x.title.length<=100000/\x.key.length<=100000/\(-9223372036854775808<=x.year/\x.year<=9223372036854775807)
theorem zo0 (vR vO:Value) (c:ColT) (wd:Bs) (x y:KeyT) (w:World) (hc:Col w vR vO c) (hs:SmallC c) (hx:FitKy x) (hy:FitKy y) :
  Calls Tryz.prog 42 #[zAS vR vO c.ignore,.string (bs wd),zE5 x,zE5 y] w fun e w'=>e=.returned (.int .i64 (zfA c wd x y))/\Kept w w':=by
 obtain ⟨x1,x2,x3,x4⟩:=hx;obtain ⟨y1,y2,y3,y4⟩:=hy;have HA:=Hd (fun w' (k:Kept w w')=>zl2 vR vO c x.author y.author w' (hc.kept k) hs x1 y1);have HT:=Hd (fun w' (k:Kept w w')=>zl2 vR vO c x.title y.title w' (hc.kept k) hs x2 y2);have HY:=Hd (fun w'=>Tryz.cmp_Compare_int x.year y.year w');have HK:=Hd (fun w'=>Tryz.strings_Compare (bs x.key) (bs y.key) w');obtain ⟨aR,cR,rfl,lR⟩:=hc.1.form;obtain ⟨aO,cO,rfl,lO⟩:=hc.2.form;have HW:Hid (zfA c wd x y=if wd=zoV then zmZ c x.author y.author else if wd=zBM then zEp x.year y.year else if wd=zg3 then zmZ c x.title y.title else zC7 x.key y.key):=rfl;rw[HW.out];unfold zAS at HA HT;obtain ⟨xa,xy,xt,xk⟩:=x;obtain ⟨ya,yy,yt,yk⟩:=y;simp only at HA HT HY HK;clear hc hs x1 x2 x3 y1 y2 y3 HW;have HK0:Hid (Kept w (((w.alloc (.cells #[.slice aR c.ranks.length cR,.slice aO c.order.length cO,.string (bs c.ignore)] 88)).alloc (.cells #[.string (bs xa),.int .i64 xy,.string (bs xt),.string (bs xk)] 84)).alloc (.cells #[.string (bs ya),.int .i64 yy,.string (bs yt),.string (bs yk)] 84))):=((zaA w _).trans (zaA _ _)).trans (zaA _ _);have hb:=((Blk.new w 88 #[.slice aR c.ranks.length cR,.slice aO c.order.length cO,.string (bs c.ignore)]).alloc (.cells #[.string (bs xa),.int .i64 xy,.string (bs xt),.string (bs xk)] 84)).alloc (.cells #[.string (bs ya),.int .i64 yy,.string (bs yt),.string (bs yk)] 84);have hx:=(Blk.new (w.alloc (.cells #[.slice aR c.ranks.length cR,.slice aO c.order.length cO,.string (bs c.ignore)] 88)) 84 #[.string (bs xa),.int .i64 xy,.string (bs xt),.string (bs xk)]).alloc (.cells #[.string (bs ya),.int .i64 yy,.string (bs yt),.string (bs yk)] 84);have hy:=Blk.new ((w.alloc (.cells #[.slice aR c.ranks.length cR,.slice aO c.order.length cO,.string (bs c.ignore)] 88)).alloc (.cells #[.string (bs xa),.int .i64 xy,.string (bs xt),.string (bs xk)] 84)) 84 #[.string (bs ya),.int .i64 yy,.string (bs yt),.string (bs yk)];obtain ⟨B,HBB⟩:∃ B,Hid (w.heap.size=B):=⟨_,rfl⟩;simp only[World.size_alloc,HBB.out] at hb hx hy;have q0:=hb.cell 0 _ rfl;have q1:=hb.cell 1 _ rfl;have q2:=hb.cell 2 _ rfl;have qz:=hb.lt;have x0:=hx.cell 0 _ rfl;have x1:=hx.cell 1 _ rfl;have x2:=hx.cell 2 _ rfl;have x3:=hx.cell 3 _ rfl;have xz:=hx.lt;have y0:=hy.cell 0 _ rfl;have y1:=hy.cell 1 _ rfl;have y2:=hy.cell 2 _ rfl;have y3:=hy.cell 3 _ rfl;have yz:=hy.lt;clear hb hx hy;unfold zoV zBM zg3 zAS zE5;dsimp only;by_cases h1:wd=[97,117,116,104,111,114]
 ·rw[if_pos h1];subst h1;go_enter Tryz.func42,Tryz.ntmps42;go_upto_region 1 with fail;rw[HBB.out];generalize World.alloc (World.alloc (World.alloc w _) _) _=w0 at *;go_wp2_with fail;refine (HA.out _ HK0.out).mono ?_;rintro e w5 ⟨rfl,hk⟩;have HKZ:=Hd (HK0.out.trans hk);clear hk HA HT HY HK;go_wp2_with fail
  (try go_ret)
  exact ⟨rfl,HKZ.out⟩
 have b1:(wd == [97,117,116,104,111,114])=false:=(by rw[beq_eq_false_iff_ne];exact h1);rw[if_neg h1];by_cases h2:wd=[121,101,97,114]
 ·rw[if_pos h2];subst h2;go_enter Tryz.func42,Tryz.ntmps42;go_upto_region 1 with fail;rw[HBB.out];generalize World.alloc (World.alloc (World.alloc w _) _) _=w0 at *;go_wp2_with fail;refine (HY.out _).mono ?_;rintro e w5 ⟨rfl,rfl⟩;clear HA HT HY HK;go_wp2_with fail
  (try go_ret)
  exact ⟨rfl,HK0.out⟩
 have b2:(wd == [121,101,97,114])=false:=(by rw[beq_eq_false_iff_ne];exact h2);rw[if_neg h2];by_cases h3:wd=[116,105,116,108,101]
 ·rw[if_pos h3];subst h3;go_enter Tryz.func42,Tryz.ntmps42;go_upto_region 1 with fail;rw[HBB.out];generalize World.alloc (World.alloc (World.alloc w _) _) _=w0 at *;go_wp2_with fail;refine (HT.out _ HK0.out).mono ?_;rintro e w5 ⟨rfl,hk⟩;have HKZ:=Hd (HK0.out.trans hk);clear hk HA HT HY HK;go_wp2_with fail
  (try go_ret)
  exact ⟨rfl,HKZ.out⟩
 have b3:(wd == [116,105,116,108,101])=false:=(by rw[beq_eq_false_iff_ne];exact h3);rw[if_neg h3];have HE:=Hd (zoZ xk yk);go_enter Tryz.func42,Tryz.ntmps42;go_upto_region 1 with fail;rw[HBB.out];generalize World.alloc (World.alloc (World.alloc w _) _) _=w0 at *;go_wp2_with fail;refine (HK.out _).mono ?_;rintro e w5 ⟨rfl,rfl⟩;clear HA HT HY HK;go_wp2_with fail
 (try go_ret)
 exact ⟨zaK (by simpa using HE.out),HK0.out⟩
theorem zzS {x y:KeyT}:(x.author == y.author && (x.year == y.year && (x.title == y.title && x.key == y.key)))=true↔x=y:=by
 obtain ⟨a,b,c,d⟩:=x;obtain ⟨e,f,g,h⟩:=y;simp
theorem zDK (c:ColT) (ws:List Bs) (k:Nat) (h:ws.length<=k) (x y:KeyT):cfW c (ws.drop k) x y=0:=by
 rw[List.drop_of_length_le h];rfl
theorem zqY (C C2:Nat) (vW vR vO:Value) (c:ColT) (ws:List Bs) (x y:SorT) (aA aE aF aA' aE' aF':Option Addr) (nA nE nF nA' nE' nF' cA cE cF cA' cE' cF':Nat) (w:World)
  (hW:Blk w C 29 #[vW]) (hws:Strs w vW ws) (hcb:Blk w C2 88 #[vR,vO,.string (bs c.ignore)]) (hc:Col w vR vO c) (hs:SmallC c) (hx:FitKy x.k) (hy:FitKy y.k) (hwl:ws.length<=1000000) :
  Calls Tryz.prog 41 #[.agg (zEq x (.slice aA nA cA) (.slice aE nE cE) (.slice aF nF cF)).toArray,.agg (zEq y (.slice aA' nA' cA') (.slice aE' nE' cE') (.slice aF' nF' cF')).toArray,.pointer (some ⟨C,0,none⟩),.pointer (some ⟨C2,0,none⟩)] w fun e w'=>e=.returned (.int .i64 (cfW c ws x.k y.k))/\Kept w w':=by
 have HCM:=Hd (fun (wd:Bs) w' (k:Kept w w')=>zo0 vR vO c wd x.k y.k w' (hc.kept k) hs hx hy);have HSELF:=Hd (fun h:x.k=y.k=>(show cfW c ws x.k y.k=0 by rw[h];exact zBN c ws y.k));have HSAME:=Hd (zzS (x:=x.k) (y:=y.k));have HDR:=Hd (fun k wd (h:ws[k]? = some wd)=>zBP (c:=c) h x.k y.k);have HEND:=Hd (fun k h=>zDK c ws k h x.k y.k);have HWS:=Hd hws;obtain ⟨aW,cW,rfl,lW⟩:=(show ∃ a cc,vW=.slice a ws.length cc/\ws.length<=cc by obtain ⟨a,c,e,l,_⟩:=hws;exact ⟨a,c,e,l⟩);obtain ⟨aR,cR,rfl,lR⟩:=hc.1.form;obtain ⟨aO,cO,rfl,lO⟩:=hc.2.form;unfold zAS zE5 at HCM;obtain ⟨⟨xa,xy,xt,xk⟩,⟨xsk,xst,xau,xed,xfs⟩⟩:=x;obtain ⟨⟨ya,yy,yt,yk⟩,⟨ysk,yst,yau,yed,yfs⟩⟩:=y;unfold zEq;simp only at HCM HSELF HSAME HDR HEND;dsimp only;have HK0:Hid (Kept w ((w.alloc (.cells #[.string (bs xa),.int .i64 xy,.string (bs xt),.string (bs xk),.string (bs xsk),.string (bs xst),.slice aA nA cA,.slice aE nE cE,.slice aF nF cF] 86)).alloc (.cells #[.string (bs ya),.int .i64 yy,.string (bs yt),.string (bs yk),.string (bs ysk),.string (bs yst),.slice aA' nA' cA',.slice aE' nE' cE',.slice aF' nF' cF'] 86))):=(zaA w _).trans (zaA _ _);have hxb:=(Blk.new w 86 #[.string (bs xa),.int .i64 xy,.string (bs xt),.string (bs xk),.string (bs xsk),.string (bs xst),.slice aA nA cA,.slice aE nE cE,.slice aF nF cF]).alloc (.cells #[.string (bs ya),.int .i64 yy,.string (bs yt),.string (bs yk),.string (bs ysk),.string (bs yst),.slice aA' nA' cA',.slice aE' nE' cE',.slice aF' nF' cF'] 86);have hyb:=Blk.new (w.alloc (.cells #[.string (bs xa),.int .i64 xy,.string (bs xt),.string (bs xk),.string (bs xsk),.string (bs xst),.slice aA nA cA,.slice aE nE cE,.slice aF nF cF] 86)) 86 #[.string (bs ya),.int .i64 yy,.string (bs yt),.string (bs yk),.string (bs ysk),.string (bs yst),.slice aA' nA' cA',.slice aE' nE' cE',.slice aF' nF' cF'];obtain ⟨B,HBB⟩:∃ B,Hid (w.heap.size=B):=⟨_,rfl⟩;simp only[World.size_alloc,HBB.out] at hxb hyb;have HXB:=Hd hxb;have HYB:=Hd hyb;have HWB:=Hd (hW.kept HK0.out);have HCB:=Hd (hcb.kept HK0.out);have HF0:Hid (∀ n w',n=cfW c ws ⟨xa,xy,xt,xk⟩ ⟨ya,yy,yt,yk⟩->Kept w w'->(Ending.returned (.int .i64 n)=.returned (.int .i64 (cfW c ws ⟨xa,xy,xt,xk⟩ ⟨ya,yy,yt,yk⟩))/\Kept w w')):=fun n w' e k=>⟨by rw[e],k⟩;have hd0:cfW c ws ⟨xa,xy,xt,xk⟩ ⟨ya,yy,yt,yk⟩=cfW c (ws.drop 0) ⟨xa,xy,xt,xk⟩ ⟨ya,yy,yt,yk⟩:=rfl;obtain ⟨R,HR⟩:∃ R,Hid (cfW c ws ⟨xa,xy,xt,xk⟩ ⟨ya,yy,yt,yk⟩=R):=⟨_,rfl⟩;have HD0:=Hd hd0;rw[HR.out] at HF0 HD0 HSELF ⊢;clear hxb hyb hW hcb hws hc hs hx hy hd0;go_enter Tryz.func41,Tryz.ntmps41;go_upto_region 1 with fail;rw[HBB.out];generalize World.alloc (World.alloc w _) _=w0 at *;have x0:=HXB.out.cell 0 _ rfl;have x1:=HXB.out.cell 1 _ rfl;have x2:=HXB.out.cell 2 _ rfl;have x3:=HXB.out.cell 3 _ rfl;have xz:=HXB.out.lt;have y0:=HYB.out.cell 0 _ rfl;have y1:=HYB.out.cell 1 _ rfl;have y2:=HYB.out.cell 2 _ rfl;have y3:=HYB.out.cell 3 _ rfl;have yz:=HYB.out.lt;have w0c:=HWB.out.cell 0 _ rfl;have wz:=HWB.out.lt;by_cases ha:xa=ya
 ·subst ha;by_cases hy:xy=yy
  ·subst hy;by_cases ht:xt=yt
   ·subst ht;by_cases hk:xk=yk
    ·subst hk;have HRZ:=Hd (HF0.out 0 w0 (HSELF.out rfl).symm HK0.out);clear HSELF HSAME HCM HDR HEND HF0;go_wp2_with fail
     (try go_ret)
     exact HRZ.out
    ·have hk0:(xk == yk)=false:=(by rw[beq_eq_false_iff_ne];exact hk);clear HSELF HSAME;go_wp2_with fail;go_loopw [17] (fun i wr=>∃ (k:Nat),k<=ws.length/\i=.int .i64 k/\Hid (R=cfW c (ws.drop k) ⟨xa,xy,xt,xk⟩ ⟨xa,xy,xt,yk⟩)/\Hid (Kept w0 wr)) (fun i _=>ws.length - (intOf i).toNat)
     case atStart=>exact ⟨0,Nat.zero_le _,rfl,HD0.out,Kept.refl _⟩
     case round =>
      clear x0 x1 x2 x3 xz y0 y1 y2 y3 yz w0c wz;obtain ⟨k,hkk,rfl,HRK,HKR⟩:=hrel;by_cases hlt:k<ws.length
      ·obtain ⟨wd,hx⟩:∃ x,ws[k]? = some x:=⟨_,List.getElem?_eq_getElem hlt⟩;obtain ⟨g,o,rfl,hg,d0,-,-⟩:=(HWS.out.kept (HK0.out.trans HKR.out)).cell_of k wd hx;have HX2:=Hd (HDR.out k wd hx);have HC:=Hd (HCM.out wd wr (HK0.out.trans HKR.out));have x0:=(HXB.out.kept HKR.out).cell 0 _ rfl;have x1:=(HXB.out.kept HKR.out).cell 1 _ rfl;have x2:=(HXB.out.kept HKR.out).cell 2 _ rfl;have x3:=(HXB.out.kept HKR.out).cell 3 _ rfl;have xz:=(HXB.out.kept HKR.out).lt;have y0:=(HYB.out.kept HKR.out).cell 0 _ rfl;have y1:=(HYB.out.kept HKR.out).cell 1 _ rfl;have y2:=(HYB.out.kept HKR.out).cell 2 _ rfl;have y3:=(HYB.out.kept HKR.out).cell 3 _ rfl;have yz:=(HYB.out.kept HKR.out).lt;have q0:=(HCB.out.kept HKR.out).cell 0 _ rfl;have q1:=(HCB.out.kept HKR.out).cell 1 _ rfl;have q2:=(HCB.out.kept HKR.out).cell 2 _ rfl;have qz:=(HCB.out.kept HKR.out).lt;obtain ⟨n,HN⟩:∃ n,Hid (zfA c wd ⟨xa,xy,xt,xk⟩ ⟨xa,xy,xt,yk⟩=n):=⟨_,rfl⟩;rw[HN.out] at HC HX2;clear hx HN;go_wp2_with fail;refine HC.out.mono ?_;rintro e w5 ⟨rfl,hk5⟩;have HK5:=Hd (HKR.out.trans hk5);clear hk5 HC x0 x1 x2 x3 xz y0 y1 y2 y3 yz q0 q1 q2 qz d0;by_cases hn0:n=0
       ·subst hn0;have HR2:Hid (R=cfW c (ws.drop (k+1)) ⟨xa,xy,xt,xk⟩ ⟨xa,xy,xt,yk⟩):=by
         show _=_;rw[HRK.out,HX2.out,if_neg (by simp)]
        clear HRK HX2;go_wp2_with fail;go_roundw
        case rel=>exact ⟨k+1,by omega,by go_num,HR2.out,HK5.out⟩
        case measure=>simp [intOf];omega
       ·have HR2:=Hd (HF0.out n w5 (by rw[HRK.out,HX2.out,if_pos hn0]) (HK0.out.trans HK5.out));clear HRK HX2;go_wp2_with fail
        (try go_ret)
        exact HR2.out
      ·have HR2:=Hd (HF0.out 0 wr (by rw[HRK.out,HEND.out k (by omega)]) (HK0.out.trans HKR.out));clear HRK;go_wp2_with fail
       (try go_ret)
       exact HR2.out
   ·have ht0:(xt == yt)=false:=(by rw[beq_eq_false_iff_ne];exact ht);clear HSELF HSAME;go_wp2_with fail;go_loopw [17] (fun i wr=>∃ (k:Nat),k<=ws.length/\i=.int .i64 k/\Hid (R=cfW c (ws.drop k) ⟨xa,xy,xt,xk⟩ ⟨xa,xy,yt,yk⟩)/\Hid (Kept w0 wr)) (fun i _=>ws.length - (intOf i).toNat)
    case atStart=>exact ⟨0,Nat.zero_le _,rfl,HD0.out,Kept.refl _⟩
    case round =>
     clear x0 x1 x2 x3 xz y0 y1 y2 y3 yz w0c wz;obtain ⟨k,hkk,rfl,HRK,HKR⟩:=hrel;by_cases hlt:k<ws.length
     ·obtain ⟨wd,hx⟩:∃ x,ws[k]? = some x:=⟨_,List.getElem?_eq_getElem hlt⟩;obtain ⟨g,o,rfl,hg,d0,-,-⟩:=(HWS.out.kept (HK0.out.trans HKR.out)).cell_of k wd hx;have HX2:=Hd (HDR.out k wd hx);have HC:=Hd (HCM.out wd wr (HK0.out.trans HKR.out));have x0:=(HXB.out.kept HKR.out).cell 0 _ rfl;have x1:=(HXB.out.kept HKR.out).cell 1 _ rfl;have x2:=(HXB.out.kept HKR.out).cell 2 _ rfl;have x3:=(HXB.out.kept HKR.out).cell 3 _ rfl;have xz:=(HXB.out.kept HKR.out).lt;have y0:=(HYB.out.kept HKR.out).cell 0 _ rfl;have y1:=(HYB.out.kept HKR.out).cell 1 _ rfl;have y2:=(HYB.out.kept HKR.out).cell 2 _ rfl;have y3:=(HYB.out.kept HKR.out).cell 3 _ rfl;have yz:=(HYB.out.kept HKR.out).lt;have q0:=(HCB.out.kept HKR.out).cell 0 _ rfl;have q1:=(HCB.out.kept HKR.out).cell 1 _ rfl;have q2:=(HCB.out.kept HKR.out).cell 2 _ rfl;have qz:=(HCB.out.kept HKR.out).lt;obtain ⟨n,HN⟩:∃ n,Hid (zfA c wd ⟨xa,xy,xt,xk⟩ ⟨xa,xy,yt,yk⟩=n):=⟨_,rfl⟩;rw[HN.out] at HC HX2;clear hx HN;go_wp2_with fail;refine HC.out.mono ?_;rintro e w5 ⟨rfl,hk5⟩;have HK5:=Hd (HKR.out.trans hk5);clear hk5 HC x0 x1 x2 x3 xz y0 y1 y2 y3 yz q0 q1 q2 qz d0;by_cases hn0:n=0
      ·subst hn0;have HR2:Hid (R=cfW c (ws.drop (k+1)) ⟨xa,xy,xt,xk⟩ ⟨xa,xy,yt,yk⟩):=by
        show _=_;rw[HRK.out,HX2.out,if_neg (by simp)]
       clear HRK HX2;go_wp2_with fail;go_roundw
       case rel=>exact ⟨k+1,by omega,by go_num,HR2.out,HK5.out⟩
       case measure=>simp [intOf];omega
      ·have HR2:=Hd (HF0.out n w5 (by rw[HRK.out,HX2.out,if_pos hn0]) (HK0.out.trans HK5.out));clear HRK HX2;go_wp2_with fail
       (try go_ret)
       exact HR2.out
     ·have HR2:=Hd (HF0.out 0 wr (by rw[HRK.out,HEND.out k (by omega)]) (HK0.out.trans HKR.out));clear HRK;go_wp2_with fail
      (try go_ret)
      exact HR2.out
  ·have hy0:(xy == yy)=false:=(by rw[beq_eq_false_iff_ne];exact hy);clear HSELF HSAME;go_wp2_with fail;go_loopw [17] (fun i wr=>∃ (k:Nat),k<=ws.length/\i=.int .i64 k/\Hid (R=cfW c (ws.drop k) ⟨xa,xy,xt,xk⟩ ⟨xa,yy,yt,yk⟩)/\Hid (Kept w0 wr)) (fun i _=>ws.length - (intOf i).toNat)
   case atStart=>exact ⟨0,Nat.zero_le _,rfl,HD0.out,Kept.refl _⟩
   case round =>
    clear x0 x1 x2 x3 xz y0 y1 y2 y3 yz w0c wz;obtain ⟨k,hkk,rfl,HRK,HKR⟩:=hrel;by_cases hlt:k<ws.length
    ·obtain ⟨wd,hx⟩:∃ x,ws[k]? = some x:=⟨_,List.getElem?_eq_getElem hlt⟩;obtain ⟨g,o,rfl,hg,d0,-,-⟩:=(HWS.out.kept (HK0.out.trans HKR.out)).cell_of k wd hx;have HX2:=Hd (HDR.out k wd hx);have HC:=Hd (HCM.out wd wr (HK0.out.trans HKR.out));have x0:=(HXB.out.kept HKR.out).cell 0 _ rfl;have x1:=(HXB.out.kept HKR.out).cell 1 _ rfl;have x2:=(HXB.out.kept HKR.out).cell 2 _ rfl;have x3:=(HXB.out.kept HKR.out).cell 3 _ rfl;have xz:=(HXB.out.kept HKR.out).lt;have y0:=(HYB.out.kept HKR.out).cell 0 _ rfl;have y1:=(HYB.out.kept HKR.out).cell 1 _ rfl;have y2:=(HYB.out.kept HKR.out).cell 2 _ rfl;have y3:=(HYB.out.kept HKR.out).cell 3 _ rfl;have yz:=(HYB.out.kept HKR.out).lt;have q0:=(HCB.out.kept HKR.out).cell 0 _ rfl;have q1:=(HCB.out.kept HKR.out).cell 1 _ rfl;have q2:=(HCB.out.kept HKR.out).cell 2 _ rfl;have qz:=(HCB.out.kept HKR.out).lt;obtain ⟨n,HN⟩:∃ n,Hid (zfA c wd ⟨xa,xy,xt,xk⟩ ⟨xa,yy,yt,yk⟩=n):=⟨_,rfl⟩;rw[HN.out] at HC HX2;clear hx HN;go_wp2_with fail;refine HC.out.mono ?_;rintro e w5 ⟨rfl,hk5⟩;have HK5:=Hd (HKR.out.trans hk5);clear hk5 HC x0 x1 x2 x3 xz y0 y1 y2 y3 yz q0 q1 q2 qz d0;by_cases hn0:n=0
     ·subst hn0;have HR2:Hid (R=cfW c (ws.drop (k+1)) ⟨xa,xy,xt,xk⟩ ⟨xa,yy,yt,yk⟩):=by
       show _=_;rw[HRK.out,HX2.out,if_neg (by simp)]
      clear HRK HX2;go_wp2_with fail;go_roundw
      case rel=>exact ⟨k+1,by omega,by go_num,HR2.out,HK5.out⟩
      case measure=>simp [intOf];omega
     ·have HR2:=Hd (HF0.out n w5 (by rw[HRK.out,HX2.out,if_pos hn0]) (HK0.out.trans HK5.out));clear HRK HX2;go_wp2_with fail
      (try go_ret)
      exact HR2.out
    ·have HR2:=Hd (HF0.out 0 wr (by rw[HRK.out,HEND.out k (by omega)]) (HK0.out.trans HKR.out));clear HRK;go_wp2_with fail
     (try go_ret)
     exact HR2.out
 ·have ha0:(xa == ya)=false:=(by rw[beq_eq_false_iff_ne];exact ha);clear HSELF HSAME;go_wp2_with fail;go_loopw [17] (fun i wr=>∃ (k:Nat),k<=ws.length/\i=.int .i64 k/\Hid (R=cfW c (ws.drop k) ⟨xa,xy,xt,xk⟩ ⟨ya,yy,yt,yk⟩)/\Hid (Kept w0 wr)) (fun i _=>ws.length - (intOf i).toNat)
  case atStart=>exact ⟨0,Nat.zero_le _,rfl,HD0.out,Kept.refl _⟩
  case round =>
   clear x0 x1 x2 x3 xz y0 y1 y2 y3 yz w0c wz;obtain ⟨k,hkk,rfl,HRK,HKR⟩:=hrel;by_cases hlt:k<ws.length
   ·obtain ⟨wd,hx⟩:∃ x,ws[k]? = some x:=⟨_,List.getElem?_eq_getElem hlt⟩;obtain ⟨g,o,rfl,hg,d0,-,-⟩:=(HWS.out.kept (HK0.out.trans HKR.out)).cell_of k wd hx;have HX2:=Hd (HDR.out k wd hx);have HC:=Hd (HCM.out wd wr (HK0.out.trans HKR.out));have x0:=(HXB.out.kept HKR.out).cell 0 _ rfl;have x1:=(HXB.out.kept HKR.out).cell 1 _ rfl;have x2:=(HXB.out.kept HKR.out).cell 2 _ rfl;have x3:=(HXB.out.kept HKR.out).cell 3 _ rfl;have xz:=(HXB.out.kept HKR.out).lt;have y0:=(HYB.out.kept HKR.out).cell 0 _ rfl;have y1:=(HYB.out.kept HKR.out).cell 1 _ rfl;have y2:=(HYB.out.kept HKR.out).cell 2 _ rfl;have y3:=(HYB.out.kept HKR.out).cell 3 _ rfl;have yz:=(HYB.out.kept HKR.out).lt;have q0:=(HCB.out.kept HKR.out).cell 0 _ rfl;have q1:=(HCB.out.kept HKR.out).cell 1 _ rfl;have q2:=(HCB.out.kept HKR.out).cell 2 _ rfl;have qz:=(HCB.out.kept HKR.out).lt;obtain ⟨n,HN⟩:∃ n,Hid (zfA c wd ⟨xa,xy,xt,xk⟩ ⟨ya,yy,yt,yk⟩=n):=⟨_,rfl⟩;rw[HN.out] at HC HX2;clear hx HN;go_wp2_with fail;refine HC.out.mono ?_;rintro e w5 ⟨rfl,hk5⟩;have HK5:=Hd (HKR.out.trans hk5);clear hk5 HC x0 x1 x2 x3 xz y0 y1 y2 y3 yz q0 q1 q2 qz d0;by_cases hn0:n=0
    ·subst hn0;have HR2:Hid (R=cfW c (ws.drop (k+1)) ⟨xa,xy,xt,xk⟩ ⟨ya,yy,yt,yk⟩):=by
      show _=_;rw[HRK.out,HX2.out,if_neg (by simp)]
     clear HRK HX2;go_wp2_with fail;go_roundw
     case rel=>exact ⟨k+1,by omega,by go_num,HR2.out,HK5.out⟩
     case measure=>simp [intOf];omega
    ·have HR2:=Hd (HF0.out n w5 (by rw[HRK.out,HX2.out,if_pos hn0]) (HK0.out.trans HK5.out));clear HRK HX2;go_wp2_with fail
     (try go_ret)
     exact HR2.out
   ·have HR2:=Hd (HF0.out 0 wr (by rw[HRK.out,HEND.out k (by omega)]) (HK0.out.trans HKR.out));clear HRK;go_wp2_with fail
    (try go_ret)
    exact HR2.out
end Go.Proofs.YtmcoomlkbgiboaaGreatDoor
